/- Buffers of bytes: cells of one block, read and written; strings as lists of numbers. Cells of bytes. Small words for draws, over the cells of bytes of UCel. within, isWord, PutWord and their kin of the reference. markText: the walk; it computes a function of its number. The helpers of the laws over slices of string: sizes, copies, comparison, marks. Printed by gen_flat.py. Appends that tell which block the new slice lies in; stores into a slice of the call's own. Sources of a certificate as lists. The helpers of the laws over impl.Source: sizes, copies, comparison, marks. Printed by gen_flat.py. The laws' own helpers over a certificate. -/
import Derived.Test.YtddihmpiaemadaaGreatDoorFc01
import Derived.Laws.BytesArg
import Derived.Lib.ConvBytes
import Derived.Maps.AppendAt
namespace Go.Proofs.YtddihmpiaemadaaGreatDoor
set_option linter.unusedVariables false
set_option linter.unusedSimpArgs false
open Go.RowKit

def bts (s : ByteArray) : List Nat := s.data.toList.map UInt8.toNat
def strN (l : List Nat) : ByteArray := strOfNums (l.map fun n : Nat => (n : Int))
theorem bts_len (s : ByteArray) : (bts s).length = s.size := by simp [bts]
theorem strN_size (l : List Nat) : (strN l).size = l.length := by simp [strN, strOfNums_size]
theorem bts_get {s : ByteArray} {k : Nat} (h : k < s.size) : (bts s)[k]? = some s[k].toNat := by
  have h' : k < s.data.toList.length := by simpa using h
  simp only [bts, List.getElem?_map, List.getElem?_eq_getElem h', Option.map_some]
  rfl
theorem bts_lt {s : ByteArray} : ∀ x ∈ bts s, x < 256 := by
  intro x h
  simp only [bts, List.mem_map] at h
  obtain ⟨a, _, rfl⟩ := h
  exact a.toNat_lt
theorem strN_bts (s : ByteArray) : strN (bts s) = s := by
  apply ByteArray.ext
  apply Array.ext'
  rw [strN, strOfNums_data]
  simp [bts, Function.comp_def]
theorem bts_strN {l : List Nat} (h : ∀ x ∈ l, x < 256) : bts (strN l) = l := by
  unfold bts strN
  rw [strOfNums_data, List.map_map, List.map_map]
  conv => rhs; rw [← List.map_id l]
  apply List.map_congr_left
  intro a ha
  simp only [Function.comp_apply, id_eq, Int.toNat_natCast, UInt8.toNat_ofNat']
  exact Nat.mod_eq_of_lt (h a ha)

/-- at block g lie the bytes l -/
def Buf (w : World) (g : Nat) (l : List Nat) : Prop := ∀ (j x : Nat), l[j]? = some x → w.cell? ⟨g, j, none⟩ = some (.int .u8 (x : Int)) ∧ w.frozen? ⟨g, j, none⟩ = false
theorem Buf.block {w w' : World} {g : Nat} {l : List Nat} (h : Buf w g l) (hb : w'.heap[g]? = w.heap[g]?) : Buf w' g l := fun j x hj => by
  have ⟨h1, h2⟩ := h j x hj
  exact ⟨(World.cell?_of_block (a := ⟨g, j, none⟩) hb).trans h1, (World.frozen?_of_block (a := ⟨g, j, none⟩) hb).trans h2⟩
theorem Buf.set {w : World} {g : Nat} {l : List Nat} (h : Buf w g l) {k x : Nat} (y : Nat) (hk : l[k]? = some x) : Buf (w.setCell ⟨g, k, none⟩ (.int .u8 (y : Int))) g (l.set k y) := fun j z hj => by
  rw [List.getElem?_set] at hj
  split at hj
  · rename_i e
    subst e
    split at hj
    · obtain rfl : y = z := by simpa using hj
      exact ⟨World.cell?_setCell_same _ _ _ (h k x hk).1, by rw [World.frozen?_setCell]; exact (h k x hk).2⟩
    · cases hj
  · rename_i e
    have ⟨h1, h2⟩ := h j z hj
    exact ⟨by rw [World.cell?_setCell_other _ _ _ _ (by intro e2; injection e2 with _ e3 _; exact e e3)]; exact h1, by rw [World.frozen?_setCell]; exact h2⟩
theorem Buf.below {w w' : World} {g : Nat} {l : List Nat} {K : Nat} (h : Buf w g l) (hb : Below K w w') (hg : g < K) : Buf w' g l := h.block (hb.block g hg)
theorem Buf.chg {w w' : World} {g B E : Nat} {l : List Nat} (h : Buf w g l) (hb : Chg B E w w') (hg : g < w.heap.size) (hne : E ≤ g ∨ g < B) : Buf w' g l := h.block (hb.block g hg (by omega))
theorem Buf.str {w : World} {g c n : Nat} {l : List Nat} (h : Buf w g l) (hn : l.length = n) : (convert 22 9 (.slice (some ⟨g, 0, none⟩) n c)).run Tryz.prog w = .ok (.string (strN l)) w :=
  run_convert_bytes_arg _ 22 5 Tryz.underlying22 Tryz.underlying5 _ 0 n c (l.map fun n : Nat => (n : Int)) (by simpa using hn) (fun i hi => by
    have hi' : i < l.length := by omega
    have := (h i l[i] (List.getElem?_eq_getElem hi')).1
    rw [Nat.zero_add, this]
    simp [List.getD, hi']) 9 Tryz.underlying9
/-- a string as bytes -/
theorem buf_of_str (w : World) (s : ByteArray) : ∃ c w', (convert 9 22 (.string s)).run Tryz.prog w = .ok (.slice (some ⟨w.heap.size, 0, none⟩) s.size c) w' ∧ Buf w' w.heap.size (bts s) ∧ Below w.heap.size w w' ∧ w'.heap.size = w.heap.size + 1 := by
  refine ⟨_, _, Lib.run_convert_string_bytes w 9 22 5 s Tryz.underlying9 Tryz.underlying22 Tryz.underlying5, ?_, ?_, ?_⟩
  · intro j x hj
    have hl := bts_len s
    have hjs : j < s.size := by have := (List.getElem?_eq_some_iff.1 hj).1; omega
    rw [bts_get hjs] at hj
    obtain rfl : s[j].toNat = x := by simpa using hj
    refine ⟨?_, ?_⟩
    · rw [Lib.bytesWorld_cell w _ s j hjs]
      have : s.data.toList.getD j 0 = s[j] := by
        rw [List.getD_eq_getElem?_getD, List.getElem?_eq_getElem (by simpa using hjs)]; rfl
      rw [this]
    · have hb := Lib.bytesWorld_at_new w 5 s
      have hz : j < (Lib.bytesCells w 5 s).size := by simp [Lib.bytesCells]; omega
      simp [World.frozen?, hb]
      omega
  · exact ⟨rfl, rfl, rfl, by rw [Lib.bytesWorld_size]; omega, fun k hk => Lib.bytesWorld_at_old w _ s k hk⟩
  · exact Lib.bytesWorld_size w _ s
/-- a new buffer of zeros -/
theorem buf_made (w : World) (n : Nat) (hn : n ≤ 16777216) : ∃ w', (Instr.makeSlice 22 (.int .i64 (n : Int)) (.int .i64 (n : Int))).run Tryz.prog w = .ok (.slice (some ⟨w.heap.size, 0, none⟩) n n) w' ∧ Buf w' w.heap.size (List.replicate n 0) ∧ Below w.heap.size w w' ∧ w'.heap.size = w.heap.size + 1 := by
  have hz : (TypeInfo.zero <$> Tryz.prog.info? 5) = some (some (.int .u8 0)) := by kernel_rfl
  have hb : (TypeInfo.bytes <$> Tryz.prog.info? 5) = some 1 := by kernel_rfl
  have hs : (TypeInfo.size <$> Tryz.prog.info? 5) = some 1 := by kernel_rfl
  cases hi : Tryz.prog.info? 5 with
  | none => rw [hi] at hz; cases hz
  | some i =>
    rw [hi] at hz hb hs
    simp only [Option.map_eq_map, Option.map_some, Option.some.injEq] at hz hb hs
    have hr := run_makeSlice (P := Tryz.prog) w 22 5 i _ Tryz.underlying22 hi hz .i64 .i64 (n : Int) (n : Int) (by omega) (by omega) (by rw [hs]; simpa using hn) (by rw [hb]; omega) (by omega)
    simp only [Int.toNat_natCast] at hr
    refine ⟨_, hr, ?_, ?_, ?_⟩
    · intro j x hj
      have hjn : j < n := by have := (List.getElem?_eq_some_iff.1 hj).1; simpa using this
      rw [List.getElem?_replicate, if_pos hjn] at hj
      obtain rfl : 0 = x := by simpa using hj
      refine ⟨?_, ?_⟩
      · simp [madeCells, hs, hjn, Value.cells, Nat.mod_one]
      · simp
    · exact Below.alloc (Below.refl _ _) (Nat.le_refl _) _
    · simp
end Go.Proofs.YtddihmpiaemadaaGreatDoor
namespace Go.Proofs.YtddihmpiaemadaaGreatDoor
set_option linter.unusedVariables false
set_option linter.unusedSimpArgs false
open Go.RowKit
def ucell (x : Nat) : List Value := [.int .u8 (x : Int)]
theorem ucell_len (x : Nat) : (ucell x).length = 1 := rfl
theorem ucell_info : (Tryz.prog.info? 5).map (fun i => (i.zero, i.size, i.bytes)) = some (some (.int .u8 0), 1, 1) := by kernel_rfl
abbrev BytesL (B : Nat) (w : World) (v : Value) (l : List Nat) : Prop := OwnL ucell 1 5 B w v l
theorem OwnL.blk {α : Type} {f : α → List Value} {z : Nat} {e : TypeId} {B : Nat} {w w' : World} {v : Value} {l : List α} (h : OwnL f z e B w v l) (hb : ∀ k, v.ownBlock = some k → w'.heap[k]? = w.heap[k]?) : OwnL f z e B w' v l := by
  refine ⟨h.1, ?_⟩
  rcases h.2 with hn | ⟨g, cap, cur, rfl, hbg, hh, rest⟩
  · exact .inl hn
  · exact .inr ⟨g, cap, cur, rfl, hbg, (hb g rfl).trans hh, rest⟩
theorem BytesL.buf {B g n c : Nat} {w : World} {l : List Nat} (h : BytesL B w (.slice (some ⟨g, 0, none⟩) n c) l) (hn : l.length = n) : Buf w g l := by
  subst hn
  intro j x hj
  have h1 := OwnL.cell ucell_len h hj (j := 0) rfl
  exact ⟨by simpa using h1, OwnL.frozen h⟩
end Go.Proofs.YtddihmpiaemadaaGreatDoor
namespace Go.Proofs.YtddihmpiaemadaaGreatDoor
set_option linter.unusedVariables false
set_option linter.unusedSimpArgs false
open Go.RowKit
theorem DrAt.grown {w w' : World} {g : Nat} {A : Option Addr} {n c a : Nat} {row : Option Nat} (h : DrAt w g A n c a) (hg : w.grownBy w' row) (hr : ∀ k, row = some k → g < k) : DrAt w' g A n c a :=
  h.keep (fun k hk => hg.block k (Nat.lt_of_le_of_lt hk h.lt) (by intro e; have := hr k e.symm; omega)) hg.size
theorem DrAt.alloc {w : World} {g : Nat} {A : Option Addr} {n c a : Nat} (h : DrAt w g A n c a) (o : Obj) : DrAt (w.alloc o) g A n c a :=
  h.grown (World.grownBy_alloc w o none) (by intro k hk; cases hk)
theorem DrAt.belowK {w w' : World} {g : Nat} {A : Option Addr} {n c a K : Nat} (h : DrAt w g A n c a) (hb : Below K w w') (hK : g < K) : DrAt w' g A n c a :=
  h.keep (fun k hk => hb.block k (Nat.lt_of_le_of_lt hk hK)) hb.size
theorem Chg.grown {B E : Nat} {a w w' : World} {row : Option Nat} (h : Chg B E a w) (hg : w.grownBy w' row) (hr : ∀ k, row = some k → a.heap.size ≤ k) : Chg B E a w' :=
  ⟨hg.os.trans h.os, hg.tape.trans h.tape, hg.output.trans h.output, Nat.le_trans h.size hg.size, fun k hk hne => (hg.block k (Nat.lt_of_lt_of_le hk h.size) (by intro e; have := hr k e.symm; omega)).trans (h.block k hk hne)⟩
theorem Chg.alloc {B E : Nat} {a w : World} (h : Chg B E a w) (o : Obj) : Chg B E a (w.alloc o) := h.grown (World.grownBy_alloc w o none) (by intro k hk; cases hk)
theorem Chg.belowK {B E K : Nat} {a w w' : World} (h : Chg B E a w) (hb : Below K w w') (hK : a.heap.size ≤ K) : Chg B E a w' :=
  ⟨hb.os.trans h.os, hb.tape.trans h.tape, hb.output.trans h.output, Nat.le_trans h.size hb.size, fun k hk hne => (hb.block k (by omega)).trans (h.block k hk hne)⟩
end Go.Proofs.YtddihmpiaemadaaGreatDoor
namespace Go.Proofs.YtddihmpiaemadaaGreatDoor
set_option linter.unusedVariables false
set_option linter.unusedSimpArgs false
open Go.RowKit

def inB (x lo hi : Int) : Bool := decide (lo ≤ x) && decide (x ≤ hi)
theorem inB_yes {x lo hi : Int} (h : inB x lo hi = true) : lo ≤ x ∧ x ≤ hi := by simpa [inB] using h
theorem inB_no {x lo hi : Int} (h : inB x lo hi = false) : ¬ (lo ≤ x ∧ x ≤ hi) := by simp [inB] at h; omega
theorem inB_t {x lo hi : Int} (h : lo ≤ x ∧ x ≤ hi) : inB x lo hi = true := by simpa [inB] using h
theorem inB_f {x lo hi : Int} (h : ¬ (lo ≤ x ∧ x ≤ hi)) : inB x lo hi = false := by simp [inB]; omega

theorem within_i (x lo hi : Int) (w : World) : Calls Tryz.prog 41 #[.int .i64 x, .int .i64 lo, .int .i64 hi] w fun e w' => e = .returned (.bool (inB x lo hi)) ∧ w = w' := by
  go_enter Tryz.func41, Tryz.ntmps41
  go_wp2
  all_goals (go_ret; refine ⟨ret_bool ?_, rfl⟩; unfold inB; go_tidy; first | (simp [*]; done) | (simp [*]; omega))
theorem in_s (x lo hi : Int) (w : World) : Calls Tryz.prog 50 #[.int .i64 x, .int .i64 lo, .int .i64 hi] w fun e w' => e = .returned (.bool (inB x lo hi)) ∧ w = w' := by
  go_enter Tryz.func50, Tryz.ntmps50
  go_wp2
  all_goals (go_ret; refine ⟨ret_bool ?_, rfl⟩; unfold inB; go_tidy; first | (simp [*]; done) | (simp [*]; omega))
/-- a word of two bytes -/
def word (n : Nat) : ByteArray := strOfNums [(n : Int) / 256, (n : Int) % 256]
end Go.Proofs.YtddihmpiaemadaaGreatDoor
namespace Go.Proofs.YtddihmpiaemadaaGreatDoor
set_option linter.unusedVariables false
set_option linter.unusedSimpArgs false
open Go.RowKit

/-- the digits of k, put before out -/
def mtd : Nat → Nat → ByteArray → ByteArray
  | 0, _, out => out
  | f + 1, k, out => if k = 0 then out else mtd f (k / 10) (strOfNums [48 + (k : Int) % 10] ++ out)
def mt (k : Nat) : ByteArray := strOfNums [109] ++ mtd k k .empty
end Go.Proofs.YtddihmpiaemadaaGreatDoor
namespace Go.Proofs.YtddihmpiaemadaaGreatDoor
set_option linter.unusedVariables false
set_option linter.unusedSimpArgs false
open Go.RowKit

def scell (e : ByteArray) : List Value := [.string e]
theorem scell_len (e : ByteArray) : (scell e).length = 1 := rfl
abbrev StringL (B : Nat) (w : World) (v : Value) (l : List ByteArray) : Prop := OwnL scell 1 9 B w v l
theorem scell_info : (Tryz.prog.info? 9).map (fun i => (i.zero, i.size, i.bytes)) = some (some (.string .empty), 1, 16) := by kernel_rfl
theorem StringL.at_ {B g c k n : Nat} {w : World} {l : List ByteArray} {e : ByteArray} (h : StringL B w (.slice (some ⟨g, 0, none⟩) n c) l) (hn : l.length = n) (he : l[k]? = some e) : w.cell? ⟨g, k, none⟩ = some (.string e) := by
  subst hn
  have := OwnL.cell scell_len h he (j := 0) rfl
  simpa using this
def swts (l : List ByteArray) : Nat := (l.map ByteArray.size).foldr (· + ·) 0
def scellM (k : Nat) : ByteArray := mt k
def scellMs (k n : Nat) : List ByteArray := (List.range n).map fun i => scellM (k + i)
def MarkedString (B : Nat) (w : World) (v : Value) (k0 n : Nat) (e : Ending) (w' : World) : Prop :=
  e = .returned (.int .i64 ((k0 + n : Nat) : Int)) ∧ StringL B w' v (scellMs k0 n) ∧ w.grownBy w' v.ownBlock
/- []string in memory -/
def RStringS : Rep (List ByteArray) := RepL scell 1 9 (fun e => e.size) (fun e => e.size ≤ maxLen) scellMs
end Go.Proofs.YtddihmpiaemadaaGreatDoor
namespace Go.Proofs.YtddihmpiaemadaaGreatDoor
set_option linter.unusedVariables false
set_option linter.unusedSimpArgs false
open Go.RowKit

section
variable {α : Type} {f : α → List Value} {z : Nat} {e : TypeId} {B : Nat} {w : World}
theorem flat_set1 (hf : ∀ a, (f a).length = z) {l : List α} {k j : Nat} {a a' : α} {u : Value} (hk : l[k]? = some a) (hj : j < z) (he : f a' = (f a).set j u) : (flat f l).set (k * z + j) u = flat f (l.set k a') := by
  induction l generalizing k with
  | nil => simp at hk
  | cons b l ih =>
    cases k with
    | zero =>
      simp at hk; subst hk
      rw [Nat.zero_mul, Nat.zero_add, flat_cons, List.set_append_left _ _ (by rw [hf]; exact hj), List.set_cons_zero, flat_cons, he]
    | succ k =>
      simp at hk
      have e1 : (k + 1) * z + j = z + (k * z + j) := by rw [Nat.add_mul]; omega
      rw [flat_cons, e1, List.set_append_right _ _ (by rw [hf]; omega), hf, Nat.add_sub_cancel_left, ih hk, List.set_cons_succ, flat_cons]
theorem OwnL.set1 (hf : ∀ a, (f a).length = z) {g n c k j : Nat} {l : List α} {a a' : α} {u : Value} (h : OwnL f z e B w (.slice (some ⟨g, 0, none⟩) n c) l) (hk : l[k]? = some a) (hj : j < z) (he : f a' = (f a).set j u) :
    OwnL f z e B (w.setCell ⟨g, k * z + j, none⟩ u) (.slice (some ⟨g, 0, none⟩) n c) (l.set k a') := by
  have hn : l.length = n := by
    obtain ⟨A, c', h1, _⟩ := h.shape
    injection h1 with _ h1 _; exact h1.symm
  subst hn
  have h1 := (World.ownsRow.stored h (k * z + j) u).1
  rw [flat_set1 hf hk hj he] at h1
  unfold OwnL
  rw [List.length_set]; exact h1
theorem OwnL.at1 (hf : ∀ a, (f a).length = z) {g n c k j : Nat} {l : List α} {a : α} {u : Value} (h : OwnL f z e B w (.slice (some ⟨g, 0, none⟩) n c) l) (hk : l[k]? = some a) (hu : (f a)[j]? = some u) : w.cell? ⟨g, k * z + j, none⟩ = some u := by
  have hn : l.length = n := by
    obtain ⟨A, c', h1, _⟩ := h.shape
    injection h1 with _ h1 _; exact h1.symm
  subst hn
  exact OwnL.cell hf h hk hu
theorem OwnL.qt {v : Value} {l : List α} {w' : World} (h : OwnL f z e B w v l) (hq : Qt w w') : OwnL f z e B w' v l := h.below (hq.below _)
end
theorem wpList_app1at {P : Program} {α : Type} (f : α → List Value) (z : Nat) (hf : ∀ a, (f a).length = z) (w : World) {ops : Array Oper} {rest : List Oper} {o : Oper} {a : Act} {Q : Exit → Act → World → Prop} (hgd : o.guard = none) (s x : Operand) (t : TypeId)
    (ho : o.op = .call { callee := .builtin .append, args := #[s, x], argTypes := #[t, t] })
    (B : Nat) (e : TypeId) (i : TypeInfo) (zv : Value) (bytes : Nat) (ht : P.underlying t = some (.slice e)) (hi : P.info? e = some i) (hz : i.zero = some zv)
    (hsize : i.size = z) (hby : i.bytes = bytes) (hzs : zv.cells.size = z) (hsz : 0 < z)
    (v : Value) (l : List α) (hs : a.eval s = v) (hown : OwnL f z e B w v l)
    (gx c : Nat) (el : α) (hx : a.eval x = .slice (some ⟨gx, 0, none⟩) 1 c) (hnews : ∀ j u, (f el)[j]? = some u → w.cell? ⟨gx, j, none⟩ = some u) (h1 : ∀ u ∈ f el, u.oneCell' = true)
    (hn : l.length + 1 ≤ 16777216) (hbytes : bytes ≤ 4096) (hbase : B ≤ w.heap.size)
    (h : ∀ v' w', OwnL f z e B w' v' (l ++ [el]) → w.grownBy w' v.ownBlock → (v'.ownBlock = v.ownBlock ∨ v'.ownBlock = some w.heap.size) → wpList P ops Q rest (a.put o.dst v') w') : wpList P ops Q (o :: rest) a w := by
  refine wpList_append_own_at w hgd s x t ho B e i zv z bytes ht hi hz hsize hby hzs hsz v l.length (flat f l) hs hown ⟨gx, 0, none⟩ 1 c (f el) hx (by rw [hf]; omega) ?_ h1 (by unfold maxLen; omega) ?_ hbase ?_
  · intro j u hu
    have e2 : (⟨gx, 0, none⟩ : Addr).add j = ⟨gx, j, none⟩ := by unfold Addr.add; split <;> simp_all
    rw [e2]; exact hnews j u hu
  · have : (l.length + 1) * bytes ≤ 16777216 * 4096 := Nat.mul_le_mul hn hbytes
    omega
  · intro v' w' h2 h3 _ h5
    refine h v' w' ?_ h3 h5
    unfold OwnL
    rw [flat_app, List.length_append]
    simpa [flat] using h2
/-- append of a part of another slice -/
theorem wpList_appSub {P : Program} {α : Type} (f : α → List Value) (z : Nat) (hf : ∀ a, (f a).length = z) (w : World) {ops : Array Oper} {rest : List Oper} {o : Oper} {a : Act} {Q : Exit → Act → World → Prop} (hgd : o.guard = none) (s x : Operand) (t : TypeId)
    (ho : o.op = .call { callee := .builtin .append, args := #[s, x], argTypes := #[t, t] })
    (B : Nat) (e : TypeId) (i : TypeInfo) (zv : Value) (bytes : Nat) (ht : P.underlying t = some (.slice e)) (hi : P.info? e = some i) (hz : i.zero = some zv)
    (hsize : i.size = z) (hby : i.bytes = bytes) (hzs : zv.cells.size = z) (hsz : 0 < z)
    (v : Value) (l : List α) (hs : a.eval s = v) (hown : OwnL f z e B w v l)
    (gx ox m c : Nat) (lx : List α) (hm : lx.length = m) (hx : a.eval x = .slice (some ⟨gx, ox, none⟩) m c) (hnews : ∀ k b j u, lx[k]? = some b → (f b)[j]? = some u → w.cell? ⟨gx, ox + (k * z + j), none⟩ = some u) (h1 : ∀ b, ∀ u ∈ f b, u.oneCell' = true)
    (hn : l.length + m ≤ 16777216) (hbytes : bytes ≤ 4096) (hbase : B ≤ w.heap.size)
    (h : ∀ v' w', OwnL f z e B w' v' (l ++ lx) → w.grownBy w' v.ownBlock → (v'.ownBlock = v.ownBlock ∨ v'.ownBlock = some w.heap.size) → wpList P ops Q rest (a.put o.dst v') w') : wpList P ops Q (o :: rest) a w := by
  subst hm
  refine wpList_append_own_at w hgd s x t ho B e i zv z bytes ht hi hz hsize hby hzs hsz v l.length (flat f l) hs hown ⟨gx, ox, none⟩ lx.length c (flat f lx) hx (flat_len hf lx) ?_ ?_ (by unfold maxLen; omega) ?_ hbase ?_
  · intro j u hu
    have e2 : (⟨gx, ox, none⟩ : Addr).add j = ⟨gx, ox + j, none⟩ := by unfold Addr.add; split <;> simp_all
    rw [e2]
    have hj : j < lx.length * z := by have := (List.getElem?_eq_some_iff.1 hu).1; rwa [flat_len hf] at this
    have hk : j / z < lx.length := Nat.div_lt_of_lt_mul (by rw [Nat.mul_comm]; exact hj)
    have ej : j = j / z * z + j % z := by rw [Nat.mul_comm]; exact (Nat.div_add_mod j z).symm
    have hb := List.getElem?_eq_getElem hk
    rw [ej, flat_get hf hb (Nat.mod_lt _ hsz)] at hu
    rw [ej]
    exact hnews _ _ _ _ hb hu
  · intro u hu
    obtain ⟨b, _, hb⟩ := List.mem_flatMap.1 hu
    exact h1 b u hb
  · have : (l.length + lx.length) * bytes ≤ 16777216 * 4096 := Nat.mul_le_mul hn hbytes
    omega
  · intro v' w' h2 h3 _ h5
    refine h v' w' ?_ h3 h5
    unfold OwnL
    rw [flat_app, List.length_append]
    exact h2
end Go.Proofs.YtddihmpiaemadaaGreatDoor
namespace Go.Proofs.YtddihmpiaemadaaGreatDoor
set_option linter.unusedVariables false
set_option linter.unusedSimpArgs false
open Go.RowKit
structure Src where
  kind : Int
  sector : Int
  dump : Int
def Src.cells (e : Src) : List Value := [.int .i64 e.kind, .int .i64 e.sector, .int .i64 e.dump]
end Go.Proofs.YtddihmpiaemadaaGreatDoor
namespace Go.Proofs.YtddihmpiaemadaaGreatDoor
set_option linter.unusedVariables false
set_option linter.unusedSimpArgs false
open Go.RowKit

theorem Src.len (e : Src) : e.cells.length = 3 := rfl
def Src.wt (e : Src) : Nat := 0
def Src.wts (l : List Src) : Nat := (l.map Src.wt).foldr (· + ·) 0
theorem Src.wts_drop {l : List Src} {k : Nat} {e : Src} (he : l[k]? = some e) : Src.wts (l.drop k) = Src.wt e + Src.wts (l.drop (k + 1)) := by
  obtain ⟨h, rfl⟩ := List.getElem?_eq_some_iff.1 he
  rw [List.drop_eq_getElem_cons h]; rfl
theorem Src.info : (Tryz.prog.info? 49).map (fun i => (i.zero, i.size, i.bytes)) = some (some (.agg #[.int .i64 0, .int .i64 0, .int .i64 0]), 3, 24) := by kernel_rfl
def Src.zero : Src := ⟨0, 0, 0⟩
instance : Inhabited Src := ⟨Src.zero⟩

def Src.mark (k : Nat) : Src := ⟨((k : Nat) : Int), ((k + 1 : Nat) : Int), ((k + 2 : Nat) : Int)⟩
def Src.marks (k n : Nat) : List Src := (List.range n).map fun i => Src.mark (k + i * 3)
theorem Src.marks_len (k n : Nat) : (Src.marks k n).length = n := by simp [Src.marks]
theorem Src.marks_get (k n i : Nat) (h : i < n) : (Src.marks k n)[i]? = some (Src.mark (k + i * 3)) := by simp [Src.marks, h]
theorem Src.marks_succ (k n : Nat) : Src.marks k (n + 1) = Src.marks k n ++ [Src.mark (k + n * 3)] := by simp [Src.marks, List.range_succ]
theorem Src.mid_get (k0 k : Nat) (l : List Src) : (Src.marks k0 k ++ l.drop k)[k]? = l[k]? := by
  rw [List.getElem?_append_right (by rw [Src.marks_len]; omega), Src.marks_len, Nat.sub_self, List.getElem?_drop, Nat.add_zero]
theorem Src.mid_len (k0 k : Nat) (l : List Src) (h : k ≤ l.length) : (Src.marks k0 k ++ l.drop k).length = l.length := by simp [Src.marks_len]; omega
theorem Src.mid_set (k0 k : Nat) (l : List Src) (h : k < l.length) : (Src.marks k0 k ++ l.drop k).set k (Src.mark (k0 + k * 3)) = Src.marks k0 (k + 1) ++ l.drop (k + 1) := by
  rw [List.set_append_right _ _ (by rw [Src.marks_len]; omega), Src.marks_len, Nat.sub_self, List.drop_eq_getElem_cons h, List.set_cons_zero, Src.marks_succ, List.append_assoc]; rfl
def MarkedSource (B : Nat) (w : World) (v : Value) (k0 n : Nat) (e : Ending) (w' : World) : Prop :=
  e = .returned (.int .i64 ((k0 + n * 3 : Nat) : Int)) ∧ OwnL Src.cells 3 49 B w' v (Src.marks k0 n) ∧ w.grownBy w' v.ownBlock

/-- []impl.Source in memory -/
def RSourceS : Rep (List Src) := RepL Src.cells 3 49 Src.wt (fun e => True) Src.marks
end Go.Proofs.YtddihmpiaemadaaGreatDoor
namespace Go.Proofs.YtddihmpiaemadaaGreatDoor
set_option linter.unusedVariables false
set_option linter.unusedSimpArgs false
open Go.RowKit

theorem Chg.set {B E : Nat} {w w' : World} (h : Chg B E w w') {g o : Nat} {u : Value} (hg : B ≤ g ∧ g < E) : Chg B E w (w'.setCell ⟨g, o, none⟩ u) :=
  ⟨h.os, h.tape, h.output, by simpa using h.size, fun i hi hne => (Below.heap_setCell _ _ _ i (by rintro rfl; exact hne hg)).trans (h.block i hi hne)⟩
end Go.Proofs.YtddihmpiaemadaaGreatDoor
