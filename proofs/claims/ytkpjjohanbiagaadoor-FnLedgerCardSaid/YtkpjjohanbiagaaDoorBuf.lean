/- Buffers of bytes: cells of one block, read and written; strings as lists of numbers. -/
import Derived.Test.YtkpjjohanbiagaaDoorOwn
import Derived.Laws.BytesArg
import Derived.Lib.ConvBytes
namespace Go.Proofs.YtkpjjohanbiagaaDoor
set_option linter.unusedVariables false
set_option linter.unusedSimpArgs false
open Go.RowKit

def bts (s : ByteArray) : List Nat := s.data.toList.map UInt8.toNat
def strN (l : List Nat) : ByteArray := strOfNums (l.map fun n : Nat => (n : Int))
theorem bts_len (s : ByteArray) : (bts s).length = s.size := by simp [bts]
theorem strN_size (l : List Nat) : (strN l).size = l.length := by simp [strN, strOfNums_size]
theorem bts_get {s : ByteArray} {k : Nat} (h : k < s.size) : (bts s)[k]? = some s[k].toNat := by
  have h' : k < s.data.toList.length := by simpa using h
  simp only [bts, List.getElem?_map, List.getElem?_eq_getElem h', Option.map_some]
  rfl
theorem bts_lt {s : ByteArray} : ∀ x ∈ bts s, x < 256 := by
  intro x h
  simp only [bts, List.mem_map] at h
  obtain ⟨a, _, rfl⟩ := h
  exact a.toNat_lt
theorem strN_bts (s : ByteArray) : strN (bts s) = s := by
  apply ByteArray.ext
  apply Array.ext'
  rw [strN, strOfNums_data]
  simp [bts, Function.comp_def]
theorem bts_strN {l : List Nat} (h : ∀ x ∈ l, x < 256) : bts (strN l) = l := by
  unfold bts strN
  rw [strOfNums_data, List.map_map, List.map_map]
  conv => rhs; rw [← List.map_id l]
  apply List.map_congr_left
  intro a ha
  simp only [Function.comp_apply, id_eq, Int.toNat_natCast, UInt8.toNat_ofNat']
  exact Nat.mod_eq_of_lt (h a ha)

/-- at block g lie the bytes l -/
def Buf (w : World) (g : Nat) (l : List Nat) : Prop := ∀ (j x : Nat), l[j]? = some x → w.cell? ⟨g, j, none⟩ = some (.int .u8 (x : Int)) ∧ w.frozen? ⟨g, j, none⟩ = false
theorem Buf.block {w w' : World} {g : Nat} {l : List Nat} (h : Buf w g l) (hb : w'.heap[g]? = w.heap[g]?) : Buf w' g l := fun j x hj => by
  have ⟨h1, h2⟩ := h j x hj
  exact ⟨(World.cell?_of_block (a := ⟨g, j, none⟩) hb).trans h1, (World.frozen?_of_block (a := ⟨g, j, none⟩) hb).trans h2⟩
theorem Buf.set {w : World} {g : Nat} {l : List Nat} (h : Buf w g l) {k x : Nat} (y : Nat) (hk : l[k]? = some x) : Buf (w.setCell ⟨g, k, none⟩ (.int .u8 (y : Int))) g (l.set k y) := fun j z hj => by
  rw [List.getElem?_set] at hj
  split at hj
  · rename_i e
    subst e
    split at hj
    · obtain rfl : y = z := by simpa using hj
      exact ⟨World.cell?_setCell_same _ _ _ (h k x hk).1, by rw [World.frozen?_setCell]; exact (h k x hk).2⟩
    · cases hj
  · rename_i e
    have ⟨h1, h2⟩ := h j z hj
    exact ⟨by rw [World.cell?_setCell_other _ _ _ _ (by intro e2; injection e2 with _ e3 _; exact e e3)]; exact h1, by rw [World.frozen?_setCell]; exact h2⟩
theorem Buf.below {w w' : World} {g : Nat} {l : List Nat} {K : Nat} (h : Buf w g l) (hb : Below K w w') (hg : g < K) : Buf w' g l := h.block (hb.block g hg)
theorem Buf.chg {w w' : World} {g B E : Nat} {l : List Nat} (h : Buf w g l) (hb : Chg B E w w') (hg : g < w.heap.size) (hne : E ≤ g ∨ g < B) : Buf w' g l := h.block (hb.block g hg (by omega))
theorem Buf.str {w : World} {g c n : Nat} {l : List Nat} (h : Buf w g l) (hn : l.length = n) : (convert 35 9 (.slice (some ⟨g, 0, none⟩) n c)).run Tryd.prog w = .ok (.string (strN l)) w :=
  run_convert_bytes_arg _ 35 5 Tryd.underlying35 Tryd.underlying5 _ 0 n c (l.map fun n : Nat => (n : Int)) (by simpa using hn) (fun i hi => by
    have hi' : i < l.length := by omega
    have := (h i l[i] (List.getElem?_eq_getElem hi')).1
    rw [Nat.zero_add, this]
    simp [List.getD, hi']) 9 Tryd.underlying9
/-- a string as bytes -/
theorem buf_of_str (w : World) (s : ByteArray) : ∃ c w', (convert 9 35 (.string s)).run Tryd.prog w = .ok (.slice (some ⟨w.heap.size, 0, none⟩) s.size c) w' ∧ Buf w' w.heap.size (bts s) ∧ Below w.heap.size w w' ∧ w'.heap.size = w.heap.size + 1 := by
  refine ⟨_, _, Lib.run_convert_string_bytes w 9 35 5 s Tryd.underlying9 Tryd.underlying35 Tryd.underlying5, ?_, ?_, ?_⟩
  · intro j x hj
    have hl := bts_len s
    have hjs : j < s.size := by have := (List.getElem?_eq_some_iff.1 hj).1; omega
    rw [bts_get hjs] at hj
    obtain rfl : s[j].toNat = x := by simpa using hj
    refine ⟨?_, ?_⟩
    · rw [Lib.bytesWorld_cell w _ s j hjs]
      have : s.data.toList.getD j 0 = s[j] := by
        rw [List.getD_eq_getElem?_getD, List.getElem?_eq_getElem (by simpa using hjs)]; rfl
      rw [this]
    · have hb := Lib.bytesWorld_at_new w 5 s
      have hz : j < (Lib.bytesCells w 5 s).size := by simp [Lib.bytesCells]; omega
      simp [World.frozen?, hb]
      omega
  · exact ⟨rfl, rfl, rfl, by rw [Lib.bytesWorld_size]; omega, fun k hk => Lib.bytesWorld_at_old w _ s k hk⟩
  · exact Lib.bytesWorld_size w _ s
/-- a new buffer of zeros -/
theorem buf_made (w : World) (n : Nat) (hn : n ≤ 16777216) : ∃ w', (Instr.makeSlice 35 (.int .i64 (n : Int)) (.int .i64 (n : Int))).run Tryd.prog w = .ok (.slice (some ⟨w.heap.size, 0, none⟩) n n) w' ∧ Buf w' w.heap.size (List.replicate n 0) ∧ Below w.heap.size w w' ∧ w'.heap.size = w.heap.size + 1 := by
  have hz : (Functor.map TypeInfo.zero (Tryd.prog.info? 5)) = some (some (.int .u8 0)) := by kernel_rfl
  have hb : (Functor.map TypeInfo.bytes (Tryd.prog.info? 5)) = some 1 := by kernel_rfl
  have hs : (Functor.map TypeInfo.size (Tryd.prog.info? 5)) = some 1 := by kernel_rfl
  cases hi : Tryd.prog.info? 5 with
  | none => rw [hi] at hz; cases hz
  | some i =>
    rw [hi] at hz hb hs
    simp only [Option.map_eq_map, Option.map_some, Option.some.injEq] at hz hb hs
    have hr := run_makeSlice (P := Tryd.prog) w 35 5 i _ Tryd.underlying35 hi hz .i64 .i64 (n : Int) (n : Int) (by omega) (by omega) (by rw [hs]; simpa using hn) (by rw [hb]; omega) (by omega)
    simp only [Int.toNat_natCast] at hr
    refine ⟨_, hr, ?_, ?_, ?_⟩
    · intro j x hj
      have hjn : j < n := by have := (List.getElem?_eq_some_iff.1 hj).1; simpa using this
      rw [List.getElem?_replicate, if_pos hjn] at hj
      obtain rfl : 0 = x := by simpa using hj
      refine ⟨?_, ?_⟩
      · simp [madeCells, hs, hjn, Value.cells, Nat.mod_one]
      · simp
    · exact Below.alloc (Below.refl _ _) (Nat.le_refl _) _
    · simp
end Go.Proofs.YtkpjjohanbiagaaDoor
