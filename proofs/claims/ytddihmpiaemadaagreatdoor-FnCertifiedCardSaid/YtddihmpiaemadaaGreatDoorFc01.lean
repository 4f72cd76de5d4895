/- Small words on worlds, lists and strings, for every walk of this seat. Nothing of the program is in here. Bitwise operations on whole numbers of 64 and 8 bits that are not below 0. Slices that read as lists of a type whose values take z cells each. The reference's source of choices: next, pick, one, among. The reference's source of choices: pick, one, among. -/
import Derived.Test.YtddihmpiaemadaaGreatDoorRows
import Derived.WalkKit
import Derived.WalkSpells
import Derived.WalkLawsBesides
import Derived.Deep.QuietTactic
import Derived.BigQuiet
import Derived.Lib.Hide
import Derived.Laws.AppendOwnNone
import Derived.StillTailTactics
import Derived.Laws.BytesArg
namespace Go.Proofs.YtddihmpiaemadaaGreatDoor
set_option linter.unusedVariables false
set_option linter.unusedSimpArgs false
open Go.RowKit

/-- only draws lie between -/
def Qt (w w' : World) : Prop := ∃ n, w' = w.drewN n
theorem Qt.refl (w : World) : Qt w w := ⟨0, rfl⟩
theorem Qt.drewN {w w' : World} (h : Qt w w') (n : Nat) : Qt w (w'.drewN n) := by
  obtain ⟨m, rfl⟩ := h; exact ⟨m + n, World.drewN_drewN _ _ _⟩
theorem Qt.drew {w w' : World} (h : Qt w w') : Qt w w'.drew := h.drewN 1
theorem Qt.trans {a b c : World} (h : Qt a b) (k : Qt b c) : Qt a c := by
  obtain ⟨m, rfl⟩ := k; exact h.drewN m
theorem Qt.cell {w w' : World} (h : Qt w w') (a : Addr) : w'.cell? a = w.cell? a := by
  obtain ⟨m, rfl⟩ := h; rfl
theorem Qt.frozen {w w' : World} (h : Qt w w') (a : Addr) : w'.frozen? a = w.frozen? a := by
  obtain ⟨m, rfl⟩ := h; rfl
theorem Qt.size {w w' : World} (h : Qt w w') : w'.heap.size = w.heap.size := by
  obtain ⟨m, rfl⟩ := h; rfl
theorem Qt.below {w w' : World} (h : Qt w w') (B : Nat) : Below B w w' := by
  obtain ⟨m, rfl⟩ := h
  exact ⟨rfl, rfl, rfl, Nat.le_refl _, fun _ _ => rfl⟩
theorem Qt.calls {P : Program} {f : FuncId} {args : Array Value} {w : World} {n : Nat} {v : Value}
    (h : Calls P f args (w.drewN n) fun e w' => e = .returned v ∧ Qt (w.drewN n) w') : Calls P f args (w.drewN n) fun e w'' => e = .returned v ∧ ∃ m, w'' = w.drewN m :=
  h.mono fun _ _ ⟨he, m, hm⟩ => ⟨he, n + m, by rw [hm, World.drewN_drewN]⟩
theorem below_drewN {B : Nat} {a w : World} (h : Below B a w) (n : Nat) : Below B a (w.drewN n) := ⟨h.os, h.tape, h.output, h.size, h.block⟩

/-- the worlds that differ from w in new blocks and draws alone -/
def Wb (w : World) : Type := {w' : World // Below w.heap.size w w'}
instance (w : World) : Nonempty (Wb w) := ⟨⟨w, Below.refl _ _⟩⟩
theorem wp_region_wb {P : Program} {id : Nat} {Q : Exit → Act → World → Prop} {a : Act} {w : World} {l : List Oper} (hm : P.follows .mixedOrders = true) (hB : Region.lexB .any l.toArray = true)
    (h : wpQuiet P l.toArray (fun w' => ∃ x : Wb w, w' = x.1) (fun a' => ∀ w', (∃ x : Wb w, w' = x.1) → Q .normal a' w') l a) : (Code.region id l.toArray true).wp P Q a w :=
  wp_region_quiet (C := fun w' => ∃ x : Wb w, w' = x.1) hm hB ⟨⟨w.drewN 1, below_drewN (Below.refl _ _) 1⟩, rfl⟩ (by simpa using h)
theorem Wb.calls {P : Program} {f : FuncId} {args : Array Value} {w : World} {x : Wb w} {v : Value}
    (h : Calls P f args x.1 fun e w' => e = .returned v ∧ Below x.1.heap.size x.1 w') : Calls P f args x.1 fun e w'' => e = .returned v ∧ ∃ y : Wb w, w'' = y.1 :=
  h.mono fun _ w' ⟨he, hm⟩ => ⟨he, ⟨w', x.2.trans (hm.mono x.2.size)⟩, rfl⟩
theorem Wb.same {P : Program} {f : FuncId} {args : Array Value} {w : World} {x : Wb w} {v : Value}
    (h : Calls P f args x.1 fun e w' => e = .returned v ∧ x.1 = w') : Calls P f args x.1 fun e w'' => e = .returned v ∧ ∃ y : Wb w, w'' = y.1 :=
  h.mono fun _ _ ⟨he, hm⟩ => ⟨he, x, hm.symm⟩
theorem Wb.qt {P : Program} {f : FuncId} {args : Array Value} {w : World} {x : Wb w} {v : Value}
    (h : Calls P f args x.1 fun e w' => e = .returned v ∧ Qt x.1 w') : Calls P f args x.1 fun e w'' => e = .returned v ∧ ∃ y : Wb w, w'' = y.1 :=
  Wb.calls (h.mono fun _ _ ⟨he, hm⟩ => ⟨he, hm.below _⟩)
theorem Wb.cell {w : World} {b o : Nat} {v : Value} (h : w.cell? ⟨b, o, none⟩ = some v) (x : Wb w) : x.1.cell? ⟨b, o, none⟩ = some v :=
  (x.2.cell (p := ⟨b, o, none⟩) (World.block_lt_of_cell? w _ h)).trans h

theorem data_len (s : ByteArray) : s.data.toList.length = s.size := by simp
/-- what a size-taking function of the laws returns: what is left of `left` behind `n`, or -1 -/
def szR (left : Int) (n : Nat) : Int := if (n : Int) ≤ left then left - n else -1
theorem ret_int {k : IntKind} {a b : Int} (h : a = b) : Ending.returned (.int k a) = .returned (.int k b) := by rw [h]
theorem ret_bool {a b : Bool} (h : a = b) : Ending.returned (.bool a) = .returned (.bool b) := by rw [h]
end Go.Proofs.YtddihmpiaemadaaGreatDoor
namespace Go.Proofs.YtddihmpiaemadaaGreatDoor
set_option linter.unusedVariables false
set_option linter.unusedSimpArgs false
open Go.RowKit

theorem ofInt_i64 (a : Nat) (ha : a < 9223372036854775808) : (BitVec.ofInt 64 (a : Int)).toNat = a := by
  rw [BitVec.ofInt_natCast, BitVec.toNat_ofNat]; exact Nat.mod_eq_of_lt (by omega)
theorem i64_and_nat (a b : Nat) (ha : a < 9223372036854775808) (hb : b < 9223372036854775808) : bits .and .i64 (a : Int) (b : Int) = ((a &&& b : Nat) : Int) := by
  have hx : a &&& b < 2 ^ 63 := Nat.and_lt_two_pow _ (by omega)
  show IntKind.i64.wrap ((BitVec.ofInt 64 (a : Int) &&& BitVec.ofInt 64 (b : Int)).toNat : Int) = _
  rw [BitVec.toNat_and, ofInt_i64 a ha, ofInt_i64 b hb, IntKind.wrap_i64]
  omega
theorem i64_xor_nat (a b : Nat) (ha : a < 9223372036854775808) (hb : b < 9223372036854775808) : bits .xor .i64 (a : Int) (b : Int) = ((a ^^^ b : Nat) : Int) := by
  have hx : a ^^^ b < 2 ^ 63 := Nat.xor_lt_two_pow (by omega) (by omega)
  show IntKind.i64.wrap ((BitVec.ofInt 64 (a : Int) ^^^ BitVec.ofInt 64 (b : Int)).toNat : Int) = _
  rw [BitVec.toNat_xor, ofInt_i64 a ha, ofInt_i64 b hb, IntKind.wrap_i64]
  omega
theorem wrap64_nat (n : Nat) (h : n < 9223372036854775808) : wrap64 (n : Int) = n := by unfold wrap64; omega
theorem u8_and_one (m : Nat) (h : m < 256) : bits .and .u8 (m : Int) 1 = ((m % 2 : Nat) : Int) := by
  have := u8_and_nat m 1 h (by omega)
  rw [nat_mask1] at this; exact this
theorem byte_lt (c : UInt8) : c.toNat < 256 := UInt8.toNat_lt c
theorem testBit_div (n j : Nat) : n.testBit j = (n / 2 ^ j % 2 == 1) := by
  rw [Nat.testBit_eq_decide_div_mod_eq]; rfl
end Go.Proofs.YtddihmpiaemadaaGreatDoor
namespace Go.Proofs.YtddihmpiaemadaaGreatDoor
set_option linter.unusedVariables false
set_option linter.unusedSimpArgs false
open Go.RowKit

section
variable {α : Type} {f : α → List Value} {z : Nat}
def flat (f : α → List Value) (l : List α) : List Value := l.flatMap f
theorem flat_cons (a : α) (l : List α) : flat f (a :: l) = f a ++ flat f l := by simp [flat]
theorem flat_app (l m : List α) : flat f (l ++ m) = flat f l ++ flat f m := by simp [flat]
theorem flat_len (hf : ∀ a, (f a).length = z) (l : List α) : (flat f l).length = l.length * z := by
  induction l with
  | nil => simp [flat]
  | cons a l ih => rw [flat_cons, List.length_append, hf, ih, List.length_cons, Nat.add_mul]; omega
theorem flat_get (hf : ∀ a, (f a).length = z) {l : List α} {k : Nat} {a : α} (h : l[k]? = some a) {j : Nat} (hj : j < z) : (flat f l)[k * z + j]? = (f a)[j]? := by
  induction l generalizing k with
  | nil => simp at h
  | cons b l ih =>
    rw [flat_cons]
    cases k with
    | zero =>
      simp at h; subst h
      rw [Nat.zero_mul, Nat.zero_add, List.getElem?_append_left (by rw [hf]; exact hj)]
    | succ k =>
      simp at h
      have e : (k + 1) * z + j = z + (k * z + j) := by rw [Nat.add_mul]; omega
      rw [e, List.getElem?_append_right (by rw [hf]; omega), hf, show z + (k * z + j) - z = k * z + j by omega]
      exact ih h
/-- cells cs put at place o -/
def putAt (xs : List Value) (o : Nat) (cs : List Value) : List Value := xs.take o ++ cs ++ xs.drop (o + cs.length)
theorem flat_put (hf : ∀ a, (f a).length = z) (l : List α) (k : Nat) (a : α) (hk : k < l.length) : putAt (flat f l) (k * z) (f a) = flat f (l.set k a) := by
  induction l generalizing k with
  | nil => simp at hk
  | cons b l ih =>
    cases k with
    | zero =>
      simp only [putAt, Nat.zero_mul, List.take_zero, List.nil_append, Nat.zero_add, hf, List.set_cons_zero, flat_cons]
      rw [← hf b, List.drop_left]
    | succ k =>
      simp only [List.set_cons_succ, flat_cons]
      rw [← ih k (by simpa using hk)]
      simp only [putAt, hf]
      have e1 : (k + 1) * z = z + k * z := by rw [Nat.add_mul]; omega
      rw [e1, ← hf b, List.take_length_add_append, show (f b).length + k * (f b).length + (f b).length = (f b).length + (k * (f b).length + (f b).length) by omega, List.drop_length_add_append]
      simp only [hf, List.append_assoc]
theorem put1 (xs : List Value) (o : Nat) (a : Value) (h : o < xs.length) : xs.set o a = putAt xs o [a] := by
  simp only [putAt, List.length_singleton]
  rw [List.set_eq_take_append_cons_drop, if_pos h]; simp
theorem put_put (xs : List Value) (o : Nat) (cs : List Value) (a : Value) (h : o + cs.length < xs.length) : (putAt xs o cs).set (o + cs.length) a = putAt xs o (cs ++ [a]) := by
  simp only [putAt]
  have hl : (xs.take o ++ cs).length = o + cs.length := by simp; omega
  rw [List.set_append_right _ _ (by omega), hl, Nat.sub_self]
  have hd : xs.drop (o + cs.length) = xs[o + cs.length] :: xs.drop (o + cs.length + 1) := List.drop_eq_getElem_cons h
  rw [hd, List.set_cons_zero]
  simp [Nat.add_assoc]
end

/-- the slice value v, made by the call from block B on, holds the list l -/
def OwnL {α : Type} (f : α → List Value) (z : Nat) (e : TypeId) (B : Nat) (w : World) (v : Value) (l : List α) : Prop := w.ownsRow B e z v l.length (flat f l)
section
variable {α : Type} {f : α → List Value} {z : Nat} {e : TypeId} {B : Nat} {w w' : World} {v : Value} {l : List α}
theorem OwnL.shape (h : OwnL f z e B w v l) : ∃ A c, v = .slice A l.length c ∧ (l = [] ∨ ∃ g, A = some ⟨g, 0, none⟩ ∧ B ≤ g ∧ g < w.heap.size) := by
  rcases h.2 with ⟨rfl, h0⟩ | ⟨g, cap, cur, rfl, hb, hh, _⟩
  · exact ⟨none, 0, by rw [h0], .inl (List.eq_nil_of_length_eq_zero h0)⟩
  · exact ⟨_, _, rfl, .inr ⟨g, rfl, hb, (Array.getElem?_eq_some_iff.1 hh).1⟩⟩
theorem OwnL.cell (hf : ∀ a, (f a).length = z) {g c k j : Nat} {a : α} {u : Value} (h : OwnL f z e B w (.slice (some ⟨g, 0, none⟩) l.length c) l) (hk : l[k]? = some a) (hu : (f a)[j]? = some u) : w.cell? ⟨g, k * z + j, none⟩ = some u := by
  have hj : j < z := by rw [← hf a]; exact (List.getElem?_eq_some_iff.1 hu).1
  have hkl : k < l.length := (List.getElem?_eq_some_iff.1 hk).1
  have h1 := h.cellAt (k * z + j) (Nat.lt_of_lt_of_le (by rw [Nat.add_mul]; omega : k * z + j < (k + 1) * z) (Nat.mul_le_mul_right z hkl))
  rw [h1, flat_get hf hk hj, hu]
theorem OwnL.frozen {g c n j : Nat} (h : OwnL f z e B w (.slice (some ⟨g, 0, none⟩) n c) l) : w.frozen? ⟨g, j, none⟩ = false := by
  rcases h.2 with ⟨h', _⟩ | ⟨g', cap, cur, h', _, hh, _⟩
  · cases h'
  · injection h' with h' _ _
    injection h' with h'
    injection h' with h' _ _
    subst h'
    exact frozen_of_row w g j cur e hh
theorem OwnL.kept {row : Option Nat} (h : OwnL f z e B w v l) (hg : w.grownBy w' row) (hne : v.ownBlock = none ∨ v.ownBlock ≠ row) : OwnL f z e B w' v l := World.ownsRow.kept h hg hne
theorem grown_of_below (h : Below w.heap.size w w') (row : Option Nat) : w.grownBy w' row := ⟨h.os, h.tape, h.output, h.size, fun i hi _ => h.block i hi⟩
theorem OwnL.below (h : OwnL f z e B w v l) (hb : Below w.heap.size w w') : OwnL f z e B w' v l := h.kept (grown_of_below hb none) (by cases v.ownBlock <;> simp)
theorem OwnL.below' {K : Nat} (h : OwnL f z e B w v l) (hb : Below K w w') (hK : ∀ g, v.ownBlock = some g → g < K) : OwnL f z e B w' v l := by
  refine ⟨h.1, ?_⟩
  rcases h.2 with hn | ⟨g, cap, cur, rfl, hbg, hh, rest⟩
  · exact .inl hn
  · exact .inr ⟨g, cap, cur, rfl, hbg, (hb.block g (hK g rfl)).trans hh, rest⟩
theorem OwnL.base {B' : Nat} (h : OwnL f z e B w v l) (hB : B' ≤ B) : OwnL f z e B' w v l := by
  refine ⟨h.1, ?_⟩
  rcases h.2 with hn | ⟨g, cap, cur, rfl, hbg, rest⟩
  · exact .inl hn
  · exact .inr ⟨g, cap, cur, rfl, Nat.le_trans hB hbg, rest⟩
theorem OwnL.alloc (h : OwnL f z e B w v l) (o : Obj) : OwnL f z e B (w.alloc o) v l := World.ownsRow.alloc h o
theorem OwnL.of_empty (w : World) (hB : B ≤ w.heap.size) : OwnL f z e B (w.alloc (.cells #[] e)) (.slice (some ⟨w.heap.size, 0, none⟩) 0 0) ([] : List α) := World.ownsRow_made w #[] 0 hB (Nat.zero_le _) (by simp)
theorem OwnL.of_nil : OwnL f z e B w (.slice none 0 0) ([] : List α) := World.ownsRow_nil w B e z
end

section
variable {α : Type} {f : α → List Value} {e : TypeId} {B g n c : Nat} {w : World} {xs : List Value}
theorem own_put1 {o : Nat} (h : w.ownsRow B e 1 (.slice (some ⟨g, 0, none⟩) n c) n xs) (a : Value) (hl : o < xs.length) :
    (w.setCell ⟨g, o, none⟩ a).ownsRow B e 1 (.slice (some ⟨g, 0, none⟩) n c) n (putAt xs o [a]) := by
  have h1 := (h.stored o a).1
  rw [put1 xs o a hl] at h1
  exact h1
theorem own_first {z o : Nat} (h : w.ownsRow B e z (.slice (some ⟨g, 0, none⟩) n c) n xs) (a : Value) (hl : o < xs.length) :
    (w.setCell ⟨g, o, none⟩ a).ownsRow B e z (.slice (some ⟨g, 0, none⟩) n c) n (putAt xs o [a]) := by
  have h1 := (h.stored o a).1
  rw [put1 xs o a hl] at h1
  exact h1
theorem own_next {z o : Nat} {cs : List Value} (h : w.ownsRow B e z (.slice (some ⟨g, 0, none⟩) n c) n (putAt xs o cs)) (a : Value) (hl : o + cs.length < xs.length) :
    (w.setCell ⟨g, o + cs.length, none⟩ a).ownsRow B e z (.slice (some ⟨g, 0, none⟩) n c) n (putAt xs o (cs ++ [a])) := by
  have h1 := (h.stored (o + cs.length) a).1
  rw [put_put xs o cs a hl] at h1
  exact h1
theorem own_put2 {z o : Nat} (h : w.ownsRow B e z (.slice (some ⟨g, 0, none⟩) n c) n xs) (a b : Value) (hl : o + 1 < xs.length) :
    ((w.setCell ⟨g, o, none⟩ a).setCell ⟨g, o + 1, none⟩ b).ownsRow B e z (.slice (some ⟨g, 0, none⟩) n c) n (putAt xs o [a, b]) :=
  own_next (cs := [a]) (own_first h a (by omega)) b hl
theorem made_flat {z : Nat} (hf : ∀ a, (f a).length = z) (hz : 0 < z) (a : α) (zc : Array Value) (h : f a = zc.toList) (n : Nat) : (madeCells zc (n * z)).toList = flat f (List.replicate n a) := by
  have hs : zc.size = z := by rw [← hf a, h]; simp
  apply List.ext_getElem?
  intro i
  by_cases hi : i < n * z
  · have hk : i / z < n := Nat.div_lt_of_lt_mul (by rw [Nat.mul_comm]; exact hi)
    have e : i = i / z * z + i % z := by rw [Nat.mul_comm]; exact (Nat.div_add_mod i z).symm
    rw [e, flat_get hf (a := a) (by simp [hk]) (Nat.mod_lt _ hz), h, ← e]
    have hm : i % z < zc.size := by rw [hs]; exact Nat.mod_lt _ hz
    simp [madeCells, hi, hs]
    rw [getElem!_pos zc (i % z) hm, getElem?_pos zc (i % z) hm]
  · rw [List.getElem?_eq_none (by simp [madeCells]; omega), List.getElem?_eq_none (by rw [flat_len hf]; simp; omega)]
end
/-- a fresh slice with list l is returned; nothing old has turned -/
def RetL {α : Type} (f : α → List Value) (z : Nat) (e : TypeId) (w : World) (l : List α) (r : Ending) (w' : World) : Prop :=
  ∃ v, r = .returned v ∧ OwnL f z e w.heap.size w' v l ∧ Below w.heap.size w w'

theorem gtrans {a b c : World} {row : Option Nat} (h : a.grownBy b row) (k : b.grownBy c row) : a.grownBy c row :=
  ⟨k.os.trans h.os, k.tape.trans h.tape, k.output.trans h.output, Nat.le_trans h.size k.size, fun i hi hne => (k.block i (Nat.lt_of_lt_of_le hi h.size) hne).trans (h.block i hi hne)⟩
theorem gset {a w : World} {g : Nat} (h : a.grownBy w (some g)) (o : Nat) (u : Value) : a.grownBy (w.setCell ⟨g, o, none⟩ u) (some g) :=
  ⟨h.os, h.tape, h.output, by simpa [World.setCell] using h.size, fun i hi hne => (Below.heap_setCell w ⟨g, o, none⟩ u i (by rintro rfl; exact hne rfl)).trans (h.block i hi hne)⟩
/-- append of one element, just built, to a slice of the call's own -/
theorem wpList_app1 {P : Program} {α : Type} (f : α → List Value) (z : Nat) (hf : ∀ a, (f a).length = z) (w : World) {ops : Array Oper} {rest : List Oper} {o : Oper} {a : Act} {Q : Exit → Act → World → Prop} (hgd : o.guard = none) (s x : Operand) (t : TypeId)
    (ho : o.op = .call { callee := .builtin .append, args := #[s, x], argTypes := #[t, t] })
    (B : Nat) (e : TypeId) (i : TypeInfo) (zv : Value) (bytes : Nat) (ht : P.underlying t = some (.slice e)) (hi : P.info? e = some i) (hz : i.zero = some zv)
    (hsize : i.size = z) (hby : i.bytes = bytes) (hzs : zv.cells.size = z) (hsz : 0 < z)
    (v : Value) (l : List α) (hs : a.eval s = v) (hown : OwnL f z e B w v l)
    (gx c : Nat) (el : α) (hx : a.eval x = .slice (some ⟨gx, 0, none⟩) 1 c) (hnews : ∀ j u, (f el)[j]? = some u → w.cell? ⟨gx, j, none⟩ = some u) (h1 : ∀ u ∈ f el, u.oneCell' = true)
    (hn : l.length + 1 ≤ 16777216) (hbytes : bytes ≤ 4096) (hbase : B ≤ w.heap.size)
    (h : ∀ v' w', OwnL f z e B w' v' (l ++ [el]) → w.grownBy w' v.ownBlock → wpList P ops Q rest (a.put o.dst v') w') : wpList P ops Q (o :: rest) a w := by
  refine wpList_append_own w hgd s x t ho B e i zv z bytes ht hi hz hsize hby hzs hsz v l.length (flat f l) hs hown ⟨gx, 0, none⟩ 1 c (f el) hx (by rw [hf]; omega) ?_ h1 (by unfold maxLen; omega) ?_ hbase ?_
  · intro j u hu
    have e2 : (⟨gx, 0, none⟩ : Addr).add j = ⟨gx, j, none⟩ := by unfold Addr.add; split <;> simp_all
    rw [e2]; exact hnews j u hu
  · have : (l.length + 1) * bytes ≤ 16777216 * 4096 := Nat.mul_le_mul hn hbytes
    omega
  · intro v' w' h2 h3 _
    refine h v' w' ?_ h3
    unfold OwnL
    rw [flat_app, List.length_append]
    simpa [flat] using h2
/-- append of all of a slice of the call's own to another one -/
theorem wpList_appAll {P : Program} {α : Type} (f : α → List Value) (z : Nat) (hf : ∀ a, (f a).length = z) (w : World) {ops : Array Oper} {rest : List Oper} {o : Oper} {a : Act} {Q : Exit → Act → World → Prop} (hgd : o.guard = none) (s x : Operand) (t : TypeId)
    (ho : o.op = .call { callee := .builtin .append, args := #[s, x], argTypes := #[t, t] })
    (B B' : Nat) (e e' : TypeId) (i : TypeInfo) (zv : Value) (bytes : Nat) (ht : P.underlying t = some (.slice e)) (hi : P.info? e = some i) (hz : i.zero = some zv)
    (hsize : i.size = z) (hby : i.bytes = bytes) (hzs : zv.cells.size = z) (hsz : 0 < z)
    (v : Value) (l : List α) (hs : a.eval s = v) (hown : OwnL f z e B w v l)
    (vx : Value) (lx : List α) (hx : a.eval x = vx) (hownx : OwnL f z e' B' w vx lx) (h1 : ∀ b, ∀ u ∈ f b, u.oneCell' = true)
    (hn : l.length + lx.length ≤ 16777216) (hbytes : bytes ≤ 4096) (hbase : B ≤ w.heap.size)
    (h : ∀ v' w', OwnL f z e B w' v' (l ++ lx) → w.grownBy w' v.ownBlock → wpList P ops Q rest (a.put o.dst v') w') : wpList P ops Q (o :: rest) a w := by
  rcases hownx.2 with ⟨rfl, hl0⟩ | ⟨g, cap, cur, rfl, _, hh, hnc, _, hcs, htk⟩
  · obtain rfl : lx = [] := List.eq_nil_of_length_eq_zero hl0
    exact wpList_append_own_none hgd s x t ho B e i z ht hi v l.length (flat f l) hs hown hx (h v w (by simpa using hown) (World.grownBy.refl w _))
  · refine wpList_append_own w hgd s x t ho B e i zv z bytes ht hi hz hsize hby hzs hsz v l.length (flat f l) hs hown ⟨g, 0, none⟩ lx.length cap (flat f lx) hx (flat_len hf lx) (hownx.cells (g := g) rfl) (fun u hu => by
      obtain ⟨b, _, hb⟩ := List.mem_flatMap.1 hu
      exact h1 b u hb) (by unfold maxLen; omega) ?_ hbase ?_
    · have : (l.length + lx.length) * bytes ≤ 16777216 * 4096 := Nat.mul_le_mul hn hbytes
      omega
    · intro v' w' h2 h3 _
      refine h v' w' ?_ h3
      unfold OwnL
      rw [flat_app, List.length_append]
      exact h2
theorem own_grown_below {α : Type} {f : α → List Value} {z : Nat} {e : TypeId} {B K : Nat} {w0 w w' : World} {v : Value} {l : List α} (h : OwnL f z e B w v l) (hb : Below K w0 w) (hg : w.grownBy w' v.ownBlock) (hK : K ≤ B) (hs : K ≤ w.heap.size) : Below K w0 w' :=
  hb.grown hg hs (fun k hk => by have := (h.lt k hk).1; omega)

/-- a slice that came in: a list at whatever place -/
def RawL {α : Type} (f : α → List Value) (z : Nat) (w : World) (v : Value) (l : List α) : Prop :=
  ∃ A c, v = .slice A l.length c ∧ l.length ≤ maxLen ∧ (l = [] ∨ ∃ b o, A = some ⟨b, o, none⟩ ∧ b < w.heap.size ∧ ∀ (k : Nat) (a : α) (j : Nat) (u : Value), l[k]? = some a → (f a)[j]? = some u → w.cell? ⟨b, o + k * z + j, none⟩ = some u)
theorem RawL.below {α : Type} {f : α → List Value} {z : Nat} {w w' : World} {v : Value} {l : List α} (h : RawL f z w v l) (hb : Below w.heap.size w w') : RawL f z w' v l := by
  obtain ⟨A, c, rfl, hm, h⟩ := h
  refine ⟨A, c, rfl, hm, ?_⟩
  rcases h with h | ⟨b, o, rfl, hlt, hc⟩
  · exact .inl h
  · exact .inr ⟨b, o, rfl, Nat.lt_of_lt_of_le hlt hb.size, fun k a j u h1 h2 => (hb.cell (p := ⟨b, _, none⟩) hlt).trans (hc k a j u h1 h2)⟩

/-- w' is w with new blocks, and writes to blocks from B up to E alone -/
structure Chg (B E : Nat) (w w' : World) : Prop where
  os : w'.os = w.os
  tape : w'.tape = w.tape
  output : w'.output = w.output
  size : w.heap.size ≤ w'.heap.size
  block : ∀ k, k < w.heap.size → ¬ (B ≤ k ∧ k < E) → w'.heap[k]? = w.heap[k]?
theorem Chg.of_below {B E : Nat} {w w' : World} (h : Below w.heap.size w w') : Chg B E w w' := ⟨h.os, h.tape, h.output, h.size, fun k hk _ => h.block k hk⟩
theorem Chg.below {B E K : Nat} {w0 w w' : World} (h : Below K w0 w) (hc : Chg B E w w') (hB : K ≤ B) (hK : K ≤ w0.heap.size) : Below K w0 w' :=
  h.trans ⟨hc.os, hc.tape, hc.output, hc.size, fun k hk => hc.block k (Nat.lt_of_lt_of_le hk (Nat.le_trans hK h.size)) (by omega)⟩
theorem Chg.trans {B E : Nat} {a b c : World} (h : Chg B E a b) (k : Chg B E b c) : Chg B E a c :=
  ⟨k.os.trans h.os, k.tape.trans h.tape, k.output.trans h.output, Nat.le_trans h.size k.size, fun i hi hne => (k.block i (Nat.lt_of_lt_of_le hi h.size) hne).trans (h.block i hi hne)⟩
theorem Chg.mono {B E B' E' : Nat} {w w' : World} (h : Chg B E w w') (hB : B' ≤ B) (hE : E ≤ E') : Chg B' E' w w' :=
  ⟨h.os, h.tape, h.output, h.size, fun k hk hne => h.block k hk (by omega)⟩
/-- how the values of a Go type stand in memory -/
structure Rep (α : Type) where
  own : Nat → Nat → World → Value → α → Prop
  raw : World → Value → α → Prop
  wt : α → Nat
  cnt : α → Nat
  mark : Nat → α → α
  chg : ∀ {B E B' E' : Nat} {w w' : World} {v : Value} {x : α}, own B E w v x → Chg B' E' w w' → (E ≤ B' ∨ E' ≤ B) → own B E w' v x
  rawk : ∀ {w w' : World} {v : Value} {x : α}, raw w v x → Below w.heap.size w w' → raw w' v x
theorem Rep.keep {α : Type} {R : Rep α} {B E : Nat} {w w' : World} {v : Value} {x : α} (h : R.own B E w v x) (hb : Below w.heap.size w w') : R.own B E w' v x :=
  R.chg h (Chg.of_below (B := E) (E := E) hb) (.inl (Nat.le_refl _))
def Rep.ret {α : Type} (R : Rep α) (w : World) (x : α) (e : Ending) (w' : World) : Prop := ∃ v, e = .returned v ∧ R.own w.heap.size w'.heap.size w' v x ∧ Below w.heap.size w w'
/-- the same, beside a whole number -/
def Rep.retI {α : Type} (R : Rep α) (w : World) (x : α) (c : Int) (e : Ending) (w' : World) : Prop := ∃ v, e = .returned (.tuple #[v, .int .i64 c]) ∧ R.own w.heap.size w'.heap.size w' v x ∧ Below w.heap.size w w'
def Rep.marked {α : Type} (R : Rep α) (B E : Nat) (w : World) (v : Value) (k0 : Nat) (x : α) (e : Ending) (w' : World) : Prop :=
  e = .returned (.int .i64 ((k0 + R.cnt x : Nat) : Int)) ∧ R.own B E w' v (R.mark k0 x) ∧ Chg B E w w'
def RepL {α : Type} (f : α → List Value) (z : Nat) (e : TypeId) (wt : α → Nat) (ok : α → Prop) (mk : Nat → Nat → List α) : Rep (List α) where
  own B E w v l := OwnL f z e B w v l ∧ ∀ g, v.ownBlock = some g → g < E
  raw w v l := RawL f z w v l ∧ ∀ a ∈ l, ok a
  wt l := l.length + (l.map wt).foldr (· + ·) 0
  cnt l := l.length * z
  mark k l := mk k l.length
  chg := by
    intro B E B' E' w w' v x h hc hd
    refine ⟨⟨h.1.1, ?_⟩, h.2⟩
    rcases h.1.2 with hn | ⟨g, cap, cur, rfl, hbg, hh, rest⟩
    · exact .inl hn
    · have hg := h.2 g rfl
      exact .inr ⟨g, cap, cur, rfl, hbg, (hc.block g (Array.getElem?_eq_some_iff.1 hh).1 (by omega)).trans hh, rest⟩
  rawk := fun h hb => ⟨h.1.below hb, h.2⟩
theorem RetL.rep {α : Type} {f : α → List Value} {z : Nat} {e : TypeId} {wt : α → Nat} {ok : α → Prop} {mk : Nat → Nat → List α} {w w' : World} {l : List α} {r : Ending} (h : RetL f z e w l r w') : (RepL f z e wt ok mk).ret w l r w' := by
  obtain ⟨v, rfl, ho, hb⟩ := h
  exact ⟨v, rfl, ⟨ho, fun g hg => (ho.lt g hg).2⟩, hb⟩
end Go.Proofs.YtddihmpiaemadaaGreatDoor
namespace Go.Proofs.YtddihmpiaemadaaGreatDoor
set_option linter.unusedVariables false
set_option linter.unusedSimpArgs false
open Go.RowKit

/-- a slice of bytes that came in -/
def BytesIn (w : World) (A : Option Addr) (n : Nat) : Prop := n = 0 ∨ ∃ b o, A = some ⟨b, o, none⟩ ∧ b < w.heap.size ∧ ∀ j, j < n → ∃ x : Nat, x < 256 ∧ w.cell? ⟨b, o + j, none⟩ = some (.int .u8 (x : Int))
theorem BytesIn.below {w w' : World} {A : Option Addr} {n K : Nat} (h : BytesIn w A n) (hb : Below K w w') (hK : w.heap.size ≤ K) : BytesIn w' A n := by
  rcases h with h | ⟨b, o, rfl, hlt, hc⟩
  · exact .inl h
  · exact .inr ⟨b, o, rfl, Nat.lt_of_lt_of_le hlt hb.size, fun j hj => by
      obtain ⟨x, hx, h⟩ := hc j hj
      exact ⟨x, hx, (hb.cell (p := ⟨b, o + j, none⟩) (by show b < K; omega)).trans h⟩⟩
/-- a source in block g over the bytes A, read up to place a -/
structure DrAt (w : World) (g : Nat) (A : Option Addr) (n c : Nat) (a : Nat) : Prop where
  lt : g < w.heap.size
  code : w.cell? ⟨g, 0, none⟩ = some (.slice A n c)
  at_ : w.cell? ⟨g, 1, none⟩ = some (.int .i64 (a : Int))
  seed : ∃ y, w.cell? ⟨g, 2, none⟩ = some (.int .u64 y)
  fr : ∀ j, w.frozen? ⟨g, j, none⟩ = false
  bytes : n = 0 ∨ ∃ b o, A = some ⟨b, o, none⟩ ∧ b < g ∧ ∀ j, j < n → ∃ x : Nat, x < 256 ∧ w.cell? ⟨b, o + j, none⟩ = some (.int .u8 (x : Int))
theorem DrAt.keep {w w' : World} {g : Nat} {A : Option Addr} {n c a : Nat} (h : DrAt w g A n c a) (hb : ∀ k, k ≤ g → w'.heap[k]? = w.heap[k]?) (hs : w.heap.size ≤ w'.heap.size) : DrAt w' g A n c a := by
  have hg := hb g (Nat.le_refl _)
  refine ⟨Nat.lt_of_lt_of_le h.lt hs, (World.cell?_of_block (a := ⟨g, 0, none⟩) hg).trans h.code, (World.cell?_of_block (a := ⟨g, 1, none⟩) hg).trans h.at_, ?_, fun j => (World.frozen?_of_block (a := ⟨g, j, none⟩) hg).trans (h.fr j), ?_⟩
  · obtain ⟨y, hy⟩ := h.seed
    exact ⟨y, (World.cell?_of_block (a := ⟨g, 2, none⟩) hg).trans hy⟩
  · rcases h.bytes with h0 | ⟨b, o, h1, h2, h3⟩
    · exact .inl h0
    · exact .inr ⟨b, o, h1, h2, fun j hj => by
        obtain ⟨x, hx, h⟩ := h3 j hj
        exact ⟨x, hx, (World.cell?_of_block (a := ⟨b, o + j, none⟩) (hb b (by omega))).trans h⟩⟩
theorem DrAt.next {w : World} {g : Nat} {A : Option Addr} {n c a : Nat} {y' : Int} (h : DrAt w g A n c a) : DrAt ((w.setCell ⟨g, 1, none⟩ (.int .i64 ((a : Int) + 1))).setCell ⟨g, 2, none⟩ (.int .u64 y')) g A n c (a + 1) := by
  obtain ⟨y, hy⟩ := h.seed
  refine ⟨by simpa using h.lt, ?_, ?_, ⟨y', ?_⟩, ?_, ?_⟩
  · rw [World.cell?_setCell_other _ _ _ _ (by intro e; injection e with _ e _; omega), World.cell?_setCell_other _ _ _ _ (by intro e; injection e with _ e _; omega)]; exact h.code
  · rw [World.cell?_setCell_other _ _ _ _ (by intro e; injection e with _ e _; omega)]
    exact World.cell?_setCell_same _ _ _ h.at_
  · exact World.cell?_setCell_same _ _ _ ((World.cell?_setCell_other _ _ _ _ (by intro e; injection e with _ e _; omega)).trans hy)
  · intro j
    rw [World.frozen?_setCell, World.frozen?_setCell]; exact h.fr j
  · rcases h.bytes with h0 | ⟨b, o, h1, h2, h3⟩
    · exact .inl h0
    · exact .inr ⟨b, o, h1, h2, fun j hj => by
        obtain ⟨x, hx, h⟩ := h3 j hj
        exact ⟨x, hx, by
          rw [World.cell?_setCell_other _ _ _ _ (by intro e; injection e with e _ _; omega), World.cell?_setCell_other _ _ _ _ (by intro e; injection e with e _ _; omega)]; exact h⟩⟩
theorem chg_two (w : World) (g : Nat) (u v : Value) : Chg g (g + 1) w ((w.setCell ⟨g, 1, none⟩ u).setCell ⟨g, 2, none⟩ v) :=
  ⟨rfl, rfl, rfl, by simp, fun i hi hne => (Below.heap_setCell _ _ _ i (by rintro rfl; exact hne ⟨Nat.le_refl _, Nat.lt_succ_self _⟩)).trans (Below.heap_setCell _ _ _ i (by rintro rfl; exact hne ⟨Nat.le_refl _, Nat.lt_succ_self _⟩))⟩
theorem Chg.same {B E : Nat} {a b c : World} (h : Chg B E a b) (h1 : c.heap = b.heap) (h2 : c.os = b.os) (h3 : c.tape = b.tape) (h4 : c.output = b.output) : Chg B E a c :=
  ⟨h2.trans h.os, h3.trans h.tape, h4.trans h.output, by rw [h1]; exact h.size, fun k hk hne => by rw [h1]; exact h.block k hk hne⟩
theorem and255 (z : Int) : ∃ r : Nat, r < 256 ∧ bits .and .u64 z 255 = (r : Int) := by
  refine ⟨(BitVec.ofInt 64 z &&& BitVec.ofInt 64 255).toNat, ?_, ?_⟩
  · rw [BitVec.toNat_and]
    have : (BitVec.ofInt 64 255).toNat = 255 := by decide
    rw [this]
    exact Nat.lt_of_le_of_lt Nat.and_le_right (by omega)
  · have h : (BitVec.ofInt 64 z &&& BitVec.ofInt 64 255).toNat < 18446744073709551616 := (BitVec.ofInt 64 z &&& BitVec.ofInt 64 255).isLt
    show IntKind.u64.wrap ((BitVec.ofInt 64 z &&& BitVec.ofInt 64 255).toNat : Int) = _
    rw [IntKind.wrap_u64]
    omega
set_option maxHeartbeats 1000000 in
theorem next_s (g : Nat) (A : Option Addr) (n c a : Nat) (w : World) (h : DrAt w g A n c a) (hn : n ≤ 1048576) (ha : a ≤ 1099511627776) :
    Calls Tryz.prog 78 #[.pointer (some ⟨g, 0, none⟩)] w fun e w' => ∃ r : Nat, r < 256 ∧ e = .returned (.int .i64 (r : Int)) ∧ DrAt w' g A n c (a + 1) ∧ Chg g (g + 1) w w' ∧ w'.heap.size = w.heap.size := by
  have HD := Lib.hid h
  have p0 := h.code
  have p1 := h.at_
  obtain ⟨y, p2⟩ := h.seed
  have f1 := h.fr 1
  have f2 := h.fr 2
  by_cases hlt : a < n
  · obtain ⟨b, o, rfl, hb, hc⟩ := h.bytes.resolve_left (by omega)
    obtain ⟨x, hx, px⟩ := hc a hlt
    clear hc h
    go_enter Tryz.func78, Tryz.ntmps78
    go_wp2
    go_quiet (fail)
    go_wp2
    go_quiet (fail)
    go_wp2
    go_quiet (fail)
    go_wp2
    go_ret
    exact ⟨x, hx, rfl, HD.out.next.keep (fun _ _ => rfl) (Nat.le_refl _), (chg_two w g _ _).same rfl rfl rfl rfl, by simp⟩
  · clear h
    go_enter Tryz.func78, Tryz.ntmps78
    go_wp2
    go_quiet (fail)
    go_wp2
    go_quiet (fail)
    go_wp2
    go_ret
    obtain ⟨r, hr, he⟩ := and255 (IntKind.u64.wrap (IntKind.u64.wrap (IntKind.u64.wrap (y * 6364136223846793005)) + 1442695040888963407) / 1099511627776)
    refine ⟨r, hr, ?_, HD.out.next.keep (fun _ _ => rfl) (Nat.le_refl _), (chg_two w g _ _).same rfl rfl rfl rfl, by simp⟩
    refine ret_int ?_
    rw [← he.symm]
    first | exact wrap64_nat _ (by omega) | (show wrap64 _ = _; rw [he]; exact wrap64_nat _ (by omega))
end Go.Proofs.YtddihmpiaemadaaGreatDoor
namespace Go.Proofs.YtddihmpiaemadaaGreatDoor
set_option linter.unusedVariables false
set_option linter.unusedSimpArgs false
open Go.RowKit
/-- the world behind a choice from the source in block g -/
def DrPost (g : Nat) (A : Option Addr) (n c a m : Nat) (w w' : World) : Prop := ∃ a', a ≤ a' ∧ a' ≤ a + m ∧ DrAt w' g A n c a' ∧ Chg g (g + 1) w w' ∧ w'.heap.size = w.heap.size
set_option maxHeartbeats 1000000 in
theorem pick_s (g : Nat) (A : Option Addr) (n c a k : Nat) (w : World) (h : DrAt w g A n c a) (hn : n ≤ 1048576) (ha : a ≤ 1099511627775) (hk : k ≤ 1048576) :
    Calls Tryz.prog 37 #[.pointer (some ⟨g, 0, none⟩), .int .i64 k] w fun e w' => ∃ r : Nat, (r = 0 ∨ r < k) ∧ e = .returned (.int .i64 (r : Int)) ∧ DrPost g A n c a 2 w w' := by
  by_cases h1 : k ≤ 1
  · go_enter Tryz.func37, Tryz.ntmps37
    go_wp2
    go_ret
    exact ⟨0, .inl rfl, rfl, a, by omega, by omega, h, Chg.of_below (Below.refl _ _), rfl⟩
  · by_cases h2 : k ≤ 200
    · go_enter Tryz.func37, Tryz.ntmps37
      go_wp2_with (go_at_call 78; refine (next_s g A n c a _ h hn (by omega)).mono ?_; rintro e w1 ⟨r, hr, rfl, hd, hch, hsz⟩)
      go_ret
      refine ⟨r % k, .inr (Nat.mod_lt _ (by omega)), ret_int ?_, a + 1, by omega, by omega, hd, hch, hsz⟩
      first | rfl | (simp; done) | (push_cast; rfl) | omega
    · go_enter Tryz.func37, Tryz.ntmps37
      go_wp2_with (fail)
      refine (next_s g A n c a _ h hn (by omega)).mono ?_; rintro e w1 ⟨r, hr, rfl, hd, hch, hsz⟩
      go_wp2_with (fail)
      refine (next_s g A n c (a + 1) _ hd hn (by omega)).mono ?_; rintro e w2 ⟨r2, hr2, rfl, hd2, hch2, hsz2⟩
      go_wp2
      go_ret
      refine ⟨(r * 256 + r2) % k, .inr (Nat.mod_lt _ (by omega)), ret_int ?_, a + 2, by omega, by omega, hd2, hch.trans hch2, hsz2.trans hsz⟩
      first | rfl | (simp; done) | (push_cast; rfl) | omega
set_option maxHeartbeats 1000000 in
theorem one_s (g : Nat) (A : Option Addr) (n c a k : Nat) (w : World) (h : DrAt w g A n c a) (hn : n ≤ 1048576) (ha : a ≤ 1099511627775) (hk : k ≤ 1048576) :
    Calls Tryz.prog 36 #[.pointer (some ⟨g, 0, none⟩), .int .i64 k] w fun e w' => ∃ b : Bool, e = .returned (.bool b) ∧ DrPost g A n c a 2 w w' := by
  go_enter Tryz.func36, Tryz.ntmps36
  go_wp2_with (go_at_call 37; refine (pick_s g A n c a k _ h hn ha hk).mono ?_; rintro e w1 ⟨r, hr, rfl, hp⟩)
  go_ret
  exact ⟨_, rfl, hp⟩
set_option maxHeartbeats 1000000 in
theorem among_s (g : Nat) (A : Option Addr) (n c a : Nat) (gl cl : Nat) (l : List Int) (w : World) (h : DrAt w g A n c a) (hn : n ≤ 1048576) (ha : a ≤ 1099511627775) (hl : 0 < l.length) (hl2 : l.length ≤ 1048576) (hgl : g < gl) (hgw : gl < w.heap.size) (hc : ∀ j x, l[j]? = some x → w.cell? ⟨gl, j, none⟩ = some (.int .i64 x)) :
    Calls Tryz.prog 38 #[.pointer (some ⟨g, 0, none⟩), .slice (some ⟨gl, 0, none⟩) l.length cl] w fun e w' => ∃ x : Int, x ∈ l ∧ e = .returned (.int .i64 x) ∧ DrPost g A n c a 2 w w' := by
  have HC := Lib.hid hc
  clear hc
  go_enter Tryz.func38, Tryz.ntmps38
  go_wp2_with (fail)
  refine (pick_s g A n c a l.length _ h hn ha hl2).mono ?_; rintro e w1 ⟨r, hr, rfl, hp⟩
  have hrl : r < l.length := by omega
  obtain ⟨x, hx⟩ : ∃ x, l[r]? = some x := ⟨l[r], List.getElem?_eq_getElem hrl⟩
  obtain ⟨a', ha1, ha2, hd, hch, hsz⟩ := hp
  have px := (World.cell?_of_block (a := ⟨gl, r, none⟩) (hch.block gl hgw (by omega))).trans (HC.out r x hx)
  have HX := Lib.hid (List.mem_of_getElem? hx)
  clear hx hr
  go_wp2
  go_ret
  exact ⟨x, HX.out, rfl, a', ha1, ha2, hd, hch, hsz⟩
end Go.Proofs.YtddihmpiaemadaaGreatDoor
