/- New lists of numbers, and numbers stored in them. -/
import Derived.Test.YtklalbbacbaoiaaHInt64
namespace Go.Proofs.Ytklalbbacbaoiaa
set_option linter.unusedVariables false
open Go.RowKit
theorem flat_icell (l : List Int) : flat icell l = l.map (fun x => Value.int .i64 x) := by
  induction l with
  | nil => rfl
  | cons a l ih => rw [flat_cons, ih]; rfl
theorem ints_made (w : World) (n : Nat) (hn : n ≤ 16777216) : ∃ w', (Instr.makeSlice 34 (.int .i64 (n : Int)) (.int .i64 (n : Int))).run Try.prog w = .ok (.slice (some ⟨w.heap.size, 0, none⟩) n n) w' ∧ Int64L w.heap.size w' (.slice (some ⟨w.heap.size, 0, none⟩) n n) (List.replicate n 0) ∧ Below w.heap.size w w' ∧ w'.heap.size = w.heap.size + 1 := by
  obtain ⟨i0, hi, hz0, hz1, hz2⟩ := info_parts icell_info
  have hr := run_makeSlice (P := Try.prog) w 34 2 i0 _ Try.underlying34 hi hz0 .i64 .i64 (n : Int) (n : Int) (by omega) (by omega) (by rw [hz1]; simpa using hn) (by rw [hz2]; omega) (by omega)
  simp only [Int.toNat_natCast, hz1, Nat.mul_one] at hr
  refine ⟨_, hr, ?_, Below.alloc (Below.refl _ _) (Nat.le_refl _) _, by simp⟩
  have h1 : (madeCells (Value.int .i64 0).cells n).toList = flat icell (List.replicate n 0) := by
    have := made_flat (f := icell) icell_len (by omega) (0 : Int) (Value.int .i64 0).cells rfl n
    rwa [Nat.mul_one] at this
  have h2 := World.ownsRow_lit (base := w.heap.size) (e := 2) (size := 1) w (madeCells (Value.int .i64 0).cells n) n (Nat.le_refl _) (by unfold maxLen; omega) (by simp [madeCells])
  rw [h1] at h2
  show World.ownsRow _ _ _ _ _ _ _
  rw [List.length_replicate]
  exact h2
theorem Int64L.set {B g c n : Nat} {w : World} {l : List Int} (h : Int64L B w (.slice (some ⟨g, 0, none⟩) n c) l) (hn : l.length = n) {k : Nat} (hk : k < l.length) (x : Int) : Int64L B (w.setCell ⟨g, k, none⟩ (.int .i64 x)) (.slice (some ⟨g, 0, none⟩) n c) (l.set k x) := by
  subst hn
  have h1 := (World.ownsRow.stored h k (.int .i64 x)).1
  have e : (flat icell l).set k (.int .i64 x) = flat icell (l.set k x) := by
    rw [flat_icell, flat_icell, List.map_set]
  rw [e] at h1
  show World.ownsRow _ _ _ _ _ _ _
  rw [List.length_set]
  exact h1
end Go.Proofs.Ytklalbbacbaoiaa
