/- Numbers in words, a text that grows in a builder, and new lists of strings: what is of no function. -/
import Derived.Test.YtkpjjohanbiagaaDoorHString
import Derived.Lib.ItoaNum
import Derived.Lib.ItoaMem
import Derived.Lib.ItoaLen
import Derived.Lib.Builder
import Derived.Lib.OthersKept
import Derived.Lib.FrozenHead
import Derived.Lib.UnsafeStr
import Derived.Lib.Join
namespace Go.Proofs.YtkpjjohanbiagaaDoor
set_option linter.unusedVariables false
set_option linter.unusedSimpArgs false
open Go.RowKit
def strB (l : List UInt8) : ByteArray := ⟨l.toArray⟩
theorem ret_str {a b : ByteArray} (h : a = b) : Ending.returned (.string a) = .returned (.string b) := by rw [h]
theorem strB_app (a b : List UInt8) : strB a ++ strB b = strB (a ++ b) := by
  apply ByteArray.ext
  simp [strB]
theorem strB_data (s : ByteArray) : strB s.data.toList = s := by
  apply ByteArray.ext
  simp [strB]
theorem strB_size (l : List UInt8) : (strB l).size = l.length := by simp [strB, ByteArray.size]
theorem strB_list (l : List UInt8) : (strB l).data.toList = l := by simp [strB]
theorem IsBuilder.keep {T e : TypeId} {B b : Nat} {bs : List Value} {w w' : World} (h : Lib.IsBuilder T e B b bs w) (hb : Below w.heap.size w w') : Lib.IsBuilder T e B b bs w' := by
  have one : ∀ p, Lib.BuilderAt T e B b p bs w → Lib.BuilderAt T e B b p bs w' := fun p h => by
    have hlt := h.lt
    obtain ⟨h1, v, h2, h3, h4⟩ := h
    refine ⟨h1, v, (hb.block b hlt).trans h2, h3.kept (grown_of_below hb none) (by cases v.ownBlock <;> simp), h4⟩
  exact h.elim (fun x => .inl (one _ x)) (fun x => .inr (one _ x))
theorem IsBuilderF.keep {T e : TypeId} {B b : Nat} {bs : List Value} {w w' : World} (h : Lib.IsBuilderF T e B b bs w) (hb : Below w.heap.size w w') : Lib.IsBuilderF T e B b bs w' := by
  have one : ∀ p, Lib.BuilderAtF T e B b p bs w → Lib.BuilderAtF T e B b p bs w' := fun p h => by
    have hlt := h.lt
    obtain ⟨h1, v, h2, h3, h4⟩ := h
    refine ⟨h1, v, (hb.block b hlt).trans h2, h3.kept (grown_of_below hb none) (by cases v.ownBlock <;> simp), h4⟩
  exact h.elim (fun x => .inl (one _ x)) (fun x => .inr (one _ x))
theorem others_cell {e t : TypeId} {b g : Nat} {cs : Array Value} {fz : Nat × Nat} {w w' : World} (h : Lib.OthersKept e (some b) w w') (hg : w.heap[g]? = some (.cells cs t fz)) (hne : g ≠ b) (ht : t ≠ e) : w'.heap[g]? = some (.cells cs t fz) :=
  h g _ hg (by intro e; injection e with e; exact hne e) (by intro c f e; injection e with _ e2 _; exact ht e2)
theorem flat_scell (l : List ByteArray) : flat scell l = l.map (fun x => Value.string x) := by
  induction l with
  | nil => rfl
  | cons a l ih => rw [flat_cons, ih]; rfl
theorem strs_made (w : World) (n : Nat) (hn : n ≤ 16777216) : ∃ w', (Instr.makeSlice 51 (.int .i64 (n : Int)) (.int .i64 (n : Int))).run Tryd.prog w = .ok (.slice (some ⟨w.heap.size, 0, none⟩) n n) w' ∧ StringL w.heap.size w' (.slice (some ⟨w.heap.size, 0, none⟩) n n) (List.replicate n .empty) ∧ Below w.heap.size w w' ∧ w'.heap.size = w.heap.size + 1 := by
  obtain ⟨i0, hi, hz0, hz1, hz2⟩ := info_parts scell_info
  have hr := run_makeSlice (P := Tryd.prog) w 51 9 i0 _ Tryd.underlying51 hi hz0 .i64 .i64 (n : Int) (n : Int) (by omega) (by omega) (by rw [hz1]; simpa using hn) (by rw [hz2]; omega) (by omega)
  simp only [Int.toNat_natCast, hz1, Nat.mul_one] at hr
  refine ⟨_, hr, ?_, Below.alloc (Below.refl _ _) (Nat.le_refl _) _, by simp⟩
  have h1 : (madeCells (Value.string .empty).cells n).toList = flat scell (List.replicate n .empty) := by
    have := made_flat (f := scell) scell_len (by omega) (ByteArray.empty) (Value.string .empty).cells rfl n
    rwa [Nat.mul_one] at this
  have h2 := World.ownsRow_lit (base := w.heap.size) (e := 9) (size := 1) w (madeCells (Value.string .empty).cells n) n (Nat.le_refl _) (by unfold maxLen; omega) (by simp [madeCells])
  rw [h1] at h2
  show World.ownsRow _ _ _ _ _ _ _
  rw [List.length_replicate]
  exact h2
theorem StringL.set {B g c n : Nat} {w : World} {l : List ByteArray} (h : StringL B w (.slice (some ⟨g, 0, none⟩) n c) l) (hn : l.length = n) {k : Nat} (hk : k < l.length) (x : ByteArray) : StringL B (w.setCell ⟨g, k, none⟩ (.string x)) (.slice (some ⟨g, 0, none⟩) n c) (l.set k x) := by
  subst hn
  have h1 := (World.ownsRow.stored h k (.string x)).1
  have e : (flat scell l).set k (.string x) = flat scell (l.set k x) := by
    rw [flat_scell, flat_scell, List.map_set]
  rw [e] at h1
  show World.ownsRow _ _ _ _ _ _ _
  rw [List.length_set]
  exact h1
end Go.Proofs.YtkpjjohanbiagaaDoor
