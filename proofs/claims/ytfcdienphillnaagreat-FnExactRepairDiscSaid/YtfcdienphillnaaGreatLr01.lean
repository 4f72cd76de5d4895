/- Small words on worlds, lists and strings, for every walk of this seat. Nothing of the program is in here. Bitwise operations on whole numbers of 64 and 8 bits that are not below 0. Slices that read as lists of a type whose values take z cells each. within, isWord, PutWord and their kin of the reference. Sources of a certificate as lists. The helpers of the laws over impl.Source: sizes, copies, comparison, marks. Printed by gen_flat.py. The laws' own helpers over a certificate. ValidCertificate, impl and spec: the walks. ValidCertificate of the reference: the walk. -/
import Derived.Test.YtfcdienphillnaaGreatRows
import Derived.WalkKit
import Derived.WalkSpells
import Derived.WalkLawsBesides
import Derived.Deep.QuietTactic
import Derived.BigQuiet
import Derived.Lib.Hide
import Derived.Laws.AppendOwnNone
import Derived.StillTailTactics
import Derived.Laws.BytesArg
namespace Go.Proofs.YtfcdienphillnaaGreat
set_option linter.unusedVariables false
set_option linter.unusedSimpArgs false
open Go.RowKit

/-- only draws lie between -/
def Qt (w w' : World) : Prop := ∃ n, w' = w.drewN n
theorem Qt.refl (w : World) : Qt w w := ⟨0, rfl⟩
theorem Qt.drewN {w w' : World} (h : Qt w w') (n : Nat) : Qt w (w'.drewN n) := by
  obtain ⟨m, rfl⟩ := h; exact ⟨m + n, World.drewN_drewN _ _ _⟩
theorem Qt.drew {w w' : World} (h : Qt w w') : Qt w w'.drew := h.drewN 1
theorem Qt.trans {a b c : World} (h : Qt a b) (k : Qt b c) : Qt a c := by
  obtain ⟨m, rfl⟩ := k; exact h.drewN m
theorem Qt.cell {w w' : World} (h : Qt w w') (a : Addr) : w'.cell? a = w.cell? a := by
  obtain ⟨m, rfl⟩ := h; rfl
theorem Qt.frozen {w w' : World} (h : Qt w w') (a : Addr) : w'.frozen? a = w.frozen? a := by
  obtain ⟨m, rfl⟩ := h; rfl
theorem Qt.size {w w' : World} (h : Qt w w') : w'.heap.size = w.heap.size := by
  obtain ⟨m, rfl⟩ := h; rfl
theorem Qt.below {w w' : World} (h : Qt w w') (B : Nat) : Below B w w' := by
  obtain ⟨m, rfl⟩ := h
  exact ⟨rfl, rfl, rfl, Nat.le_refl _, fun _ _ => rfl⟩
theorem Qt.calls {P : Program} {f : FuncId} {args : Array Value} {w : World} {n : Nat} {v : Value}
    (h : Calls P f args (w.drewN n) fun e w' => e = .returned v ∧ Qt (w.drewN n) w') : Calls P f args (w.drewN n) fun e w'' => e = .returned v ∧ ∃ m, w'' = w.drewN m :=
  h.mono fun _ _ ⟨he, m, hm⟩ => ⟨he, n + m, by rw [hm, World.drewN_drewN]⟩
theorem bcell {W w1 : World} (hb : Below W.heap.size W w1) : (∀ b o, b < W.heap.size → w1.cell? ⟨b, o, none⟩ = W.cell? ⟨b, o, none⟩) ∧ (∀ b o, b < W.heap.size → w1.frozen? ⟨b, o, none⟩ = W.frozen? ⟨b, o, none⟩) :=
  ⟨fun b o h => hb.cell (p := ⟨b, o, none⟩) h, fun b o h => hb.frozen (p := ⟨b, o, none⟩) h⟩
theorem below_drewN {B : Nat} {a w : World} (h : Below B a w) (n : Nat) : Below B a (w.drewN n) := ⟨h.os, h.tape, h.output, h.size, h.block⟩

/-- the worlds that differ from w in new blocks and draws alone -/
def Wb (w : World) : Type := {w' : World // Below w.heap.size w w'}
instance (w : World) : Nonempty (Wb w) := ⟨⟨w, Below.refl _ _⟩⟩
theorem wp_region_wb {P : Program} {id : Nat} {Q : Exit → Act → World → Prop} {a : Act} {w : World} {l : List Oper} (hm : P.follows .mixedOrders = true) (hB : Region.lexB .any l.toArray = true)
    (h : wpQuiet P l.toArray (fun w' => ∃ x : Wb w, w' = x.1) (fun a' => ∀ w', (∃ x : Wb w, w' = x.1) → Q .normal a' w') l a) : (Code.region id l.toArray true).wp P Q a w :=
  wp_region_quiet (C := fun w' => ∃ x : Wb w, w' = x.1) hm hB ⟨⟨w.drewN 1, below_drewN (Below.refl _ _) 1⟩, rfl⟩ (by simpa using h)
theorem Wb.calls {P : Program} {f : FuncId} {args : Array Value} {w : World} {x : Wb w} {v : Value}
    (h : Calls P f args x.1 fun e w' => e = .returned v ∧ Below x.1.heap.size x.1 w') : Calls P f args x.1 fun e w'' => e = .returned v ∧ ∃ y : Wb w, w'' = y.1 :=
  h.mono fun _ w' ⟨he, hm⟩ => ⟨he, ⟨w', x.2.trans (hm.mono x.2.size)⟩, rfl⟩
theorem Wb.same {P : Program} {f : FuncId} {args : Array Value} {w : World} {x : Wb w} {v : Value}
    (h : Calls P f args x.1 fun e w' => e = .returned v ∧ x.1 = w') : Calls P f args x.1 fun e w'' => e = .returned v ∧ ∃ y : Wb w, w'' = y.1 :=
  h.mono fun _ _ ⟨he, hm⟩ => ⟨he, x, hm.symm⟩
theorem Wb.qt {P : Program} {f : FuncId} {args : Array Value} {w : World} {x : Wb w} {v : Value}
    (h : Calls P f args x.1 fun e w' => e = .returned v ∧ Qt x.1 w') : Calls P f args x.1 fun e w'' => e = .returned v ∧ ∃ y : Wb w, w'' = y.1 :=
  Wb.calls (h.mono fun _ _ ⟨he, hm⟩ => ⟨he, hm.below _⟩)
theorem Wb.cell {w : World} {b o : Nat} {v : Value} (h : w.cell? ⟨b, o, none⟩ = some v) (x : Wb w) : x.1.cell? ⟨b, o, none⟩ = some v :=
  (x.2.cell (p := ⟨b, o, none⟩) (World.block_lt_of_cell? w _ h)).trans h

theorem data_len (s : ByteArray) : s.data.toList.length = s.size := by simp
/-- what a size-taking function of the laws returns: what is left of `left` behind `n`, or -1 -/
def szR (left : Int) (n : Nat) : Int := if (n : Int) ≤ left then left - n else -1
theorem szR_yes {left : Int} {n : Nat} (h : (n : Int) ≤ left) : szR left n = left - n := if_pos h
theorem szR_no {left : Int} {n : Nat} (h : ¬ (n : Int) ≤ left) : szR left n = -1 := if_neg h
theorem szR_pos {left : Int} {n : Nat} : 0 ≤ szR left n ↔ (n : Int) ≤ left := by unfold szR; split <;> omega
theorem szR_neg {left : Int} {n : Nat} : szR left n < 0 ↔ ¬ (n : Int) ≤ left := by unfold szR; split <;> omega
theorem ret_int {k : IntKind} {a b : Int} (h : a = b) : Ending.returned (.int k a) = .returned (.int k b) := by rw [h]
theorem ret_bool {a b : Bool} (h : a = b) : Ending.returned (.bool a) = .returned (.bool b) := by rw [h]
end Go.Proofs.YtfcdienphillnaaGreat
namespace Go.Proofs.YtfcdienphillnaaGreat
set_option linter.unusedVariables false
set_option linter.unusedSimpArgs false
open Go.RowKit

theorem ofInt_i64 (a : Nat) (ha : a < 9223372036854775808) : (BitVec.ofInt 64 (a : Int)).toNat = a := by
  rw [BitVec.ofInt_natCast, BitVec.toNat_ofNat]; exact Nat.mod_eq_of_lt (by omega)
theorem i64_and_nat (a b : Nat) (ha : a < 9223372036854775808) (hb : b < 9223372036854775808) : bits .and .i64 (a : Int) (b : Int) = ((a &&& b : Nat) : Int) := by
  have hx : a &&& b < 2 ^ 63 := Nat.and_lt_two_pow _ (by omega)
  show IntKind.i64.wrap ((BitVec.ofInt 64 (a : Int) &&& BitVec.ofInt 64 (b : Int)).toNat : Int) = _
  rw [BitVec.toNat_and, ofInt_i64 a ha, ofInt_i64 b hb, IntKind.wrap_i64]
  omega
theorem i64_xor_nat (a b : Nat) (ha : a < 9223372036854775808) (hb : b < 9223372036854775808) : bits .xor .i64 (a : Int) (b : Int) = ((a ^^^ b : Nat) : Int) := by
  have hx : a ^^^ b < 2 ^ 63 := Nat.xor_lt_two_pow (by omega) (by omega)
  show IntKind.i64.wrap ((BitVec.ofInt 64 (a : Int) ^^^ BitVec.ofInt 64 (b : Int)).toNat : Int) = _
  rw [BitVec.toNat_xor, ofInt_i64 a ha, ofInt_i64 b hb, IntKind.wrap_i64]
  omega
theorem wrap64_nat (n : Nat) (h : n < 9223372036854775808) : wrap64 (n : Int) = n := by unfold wrap64; omega
theorem u8_and_one (m : Nat) (h : m < 256) : bits .and .u8 (m : Int) 1 = ((m % 2 : Nat) : Int) := by
  have := u8_and_nat m 1 h (by omega)
  rw [nat_mask1] at this; exact this
theorem byte_lt (c : UInt8) : c.toNat < 256 := UInt8.toNat_lt c
theorem testBit_div (n j : Nat) : n.testBit j = (n / 2 ^ j % 2 == 1) := by
  rw [Nat.testBit_eq_decide_div_mod_eq]; rfl
end Go.Proofs.YtfcdienphillnaaGreat
namespace Go.Proofs.YtfcdienphillnaaGreat
set_option linter.unusedVariables false
set_option linter.unusedSimpArgs false
open Go.RowKit

section
variable {α : Type} {f : α → List Value} {z : Nat}
def flat (f : α → List Value) (l : List α) : List Value := l.flatMap f
theorem flat_cons (a : α) (l : List α) : flat f (a :: l) = f a ++ flat f l := by simp [flat]
theorem flat_app (l m : List α) : flat f (l ++ m) = flat f l ++ flat f m := by simp [flat]
theorem flat_len (hf : ∀ a, (f a).length = z) (l : List α) : (flat f l).length = l.length * z := by
  induction l with
  | nil => simp [flat]
  | cons a l ih => rw [flat_cons, List.length_append, hf, ih, List.length_cons, Nat.add_mul]; omega
theorem flat_get (hf : ∀ a, (f a).length = z) {l : List α} {k : Nat} {a : α} (h : l[k]? = some a) {j : Nat} (hj : j < z) : (flat f l)[k * z + j]? = (f a)[j]? := by
  induction l generalizing k with
  | nil => simp at h
  | cons b l ih =>
    rw [flat_cons]
    cases k with
    | zero =>
      simp at h; subst h
      rw [Nat.zero_mul, Nat.zero_add, List.getElem?_append_left (by rw [hf]; exact hj)]
    | succ k =>
      simp at h
      have e : (k + 1) * z + j = z + (k * z + j) := by rw [Nat.add_mul]; omega
      rw [e, List.getElem?_append_right (by rw [hf]; omega), hf, show z + (k * z + j) - z = k * z + j by omega]
      exact ih h
/-- cells cs put at place o -/
def putAt (xs : List Value) (o : Nat) (cs : List Value) : List Value := xs.take o ++ cs ++ xs.drop (o + cs.length)
theorem flat_put (hf : ∀ a, (f a).length = z) (l : List α) (k : Nat) (a : α) (hk : k < l.length) : putAt (flat f l) (k * z) (f a) = flat f (l.set k a) := by
  induction l generalizing k with
  | nil => simp at hk
  | cons b l ih =>
    cases k with
    | zero =>
      simp only [putAt, Nat.zero_mul, List.take_zero, List.nil_append, Nat.zero_add, hf, List.set_cons_zero, flat_cons]
      rw [← hf b, List.drop_left]
    | succ k =>
      simp only [List.set_cons_succ, flat_cons]
      rw [← ih k (by simpa using hk)]
      simp only [putAt, hf]
      have e1 : (k + 1) * z = z + k * z := by rw [Nat.add_mul]; omega
      rw [e1, ← hf b, List.take_length_add_append, show (f b).length + k * (f b).length + (f b).length = (f b).length + (k * (f b).length + (f b).length) by omega, List.drop_length_add_append]
      simp only [hf, List.append_assoc]
theorem put1 (xs : List Value) (o : Nat) (a : Value) (h : o < xs.length) : xs.set o a = putAt xs o [a] := by
  simp only [putAt, List.length_singleton]
  rw [List.set_eq_take_append_cons_drop, if_pos h]; simp
theorem put_put (xs : List Value) (o : Nat) (cs : List Value) (a : Value) (h : o + cs.length < xs.length) : (putAt xs o cs).set (o + cs.length) a = putAt xs o (cs ++ [a]) := by
  simp only [putAt]
  have hl : (xs.take o ++ cs).length = o + cs.length := by simp; omega
  rw [List.set_append_right _ _ (by omega), hl, Nat.sub_self]
  have hd : xs.drop (o + cs.length) = xs[o + cs.length] :: xs.drop (o + cs.length + 1) := List.drop_eq_getElem_cons h
  rw [hd, List.set_cons_zero]
  simp [Nat.add_assoc]
end

/-- the slice value v, made by the call from block B on, holds the list l -/
def OwnL {α : Type} (f : α → List Value) (z : Nat) (e : TypeId) (B : Nat) (w : World) (v : Value) (l : List α) : Prop := w.ownsRow B e z v l.length (flat f l)
section
variable {α : Type} {f : α → List Value} {z : Nat} {e : TypeId} {B : Nat} {w w' : World} {v : Value} {l : List α}
theorem OwnL.shape (h : OwnL f z e B w v l) : ∃ A c, v = .slice A l.length c ∧ (l = [] ∨ ∃ g, A = some ⟨g, 0, none⟩ ∧ B ≤ g ∧ g < w.heap.size) := by
  rcases h.2 with ⟨rfl, h0⟩ | ⟨g, cap, cur, rfl, hb, hh, _⟩
  · exact ⟨none, 0, by rw [h0], .inl (List.eq_nil_of_length_eq_zero h0)⟩
  · exact ⟨_, _, rfl, .inr ⟨g, rfl, hb, (Array.getElem?_eq_some_iff.1 hh).1⟩⟩
theorem OwnL.cell (hf : ∀ a, (f a).length = z) {g c k j : Nat} {a : α} {u : Value} (h : OwnL f z e B w (.slice (some ⟨g, 0, none⟩) l.length c) l) (hk : l[k]? = some a) (hu : (f a)[j]? = some u) : w.cell? ⟨g, k * z + j, none⟩ = some u := by
  have hj : j < z := by rw [← hf a]; exact (List.getElem?_eq_some_iff.1 hu).1
  have hkl : k < l.length := (List.getElem?_eq_some_iff.1 hk).1
  have h1 := h.cellAt (k * z + j) (Nat.lt_of_lt_of_le (by rw [Nat.add_mul]; omega : k * z + j < (k + 1) * z) (Nat.mul_le_mul_right z hkl))
  rw [h1, flat_get hf hk hj, hu]
theorem OwnL.frozen {g c n j : Nat} (h : OwnL f z e B w (.slice (some ⟨g, 0, none⟩) n c) l) : w.frozen? ⟨g, j, none⟩ = false := by
  rcases h.2 with ⟨h', _⟩ | ⟨g', cap, cur, h', _, hh, _⟩
  · cases h'
  · injection h' with h' _ _
    injection h' with h'
    injection h' with h' _ _
    subst h'
    exact frozen_of_row w g j cur e hh
theorem OwnL.kept {row : Option Nat} (h : OwnL f z e B w v l) (hg : w.grownBy w' row) (hne : v.ownBlock = none ∨ v.ownBlock ≠ row) : OwnL f z e B w' v l := World.ownsRow.kept h hg hne
theorem grown_of_below (h : Below w.heap.size w w') (row : Option Nat) : w.grownBy w' row := ⟨h.os, h.tape, h.output, h.size, fun i hi _ => h.block i hi⟩
theorem OwnL.below (h : OwnL f z e B w v l) (hb : Below w.heap.size w w') : OwnL f z e B w' v l := h.kept (grown_of_below hb none) (by cases v.ownBlock <;> simp)
theorem OwnL.below' {K : Nat} (h : OwnL f z e B w v l) (hb : Below K w w') (hK : ∀ g, v.ownBlock = some g → g < K) : OwnL f z e B w' v l := by
  refine ⟨h.1, ?_⟩
  rcases h.2 with hn | ⟨g, cap, cur, rfl, hbg, hh, rest⟩
  · exact .inl hn
  · exact .inr ⟨g, cap, cur, rfl, hbg, (hb.block g (hK g rfl)).trans hh, rest⟩
theorem OwnL.base {B' : Nat} (h : OwnL f z e B w v l) (hB : B' ≤ B) : OwnL f z e B' w v l := by
  refine ⟨h.1, ?_⟩
  rcases h.2 with hn | ⟨g, cap, cur, rfl, hbg, rest⟩
  · exact .inl hn
  · exact .inr ⟨g, cap, cur, rfl, Nat.le_trans hB hbg, rest⟩
theorem OwnL.alloc (h : OwnL f z e B w v l) (o : Obj) : OwnL f z e B (w.alloc o) v l := World.ownsRow.alloc h o
theorem OwnL.of_empty (w : World) (hB : B ≤ w.heap.size) : OwnL f z e B (w.alloc (.cells #[] e)) (.slice (some ⟨w.heap.size, 0, none⟩) 0 0) ([] : List α) := World.ownsRow_made w #[] 0 hB (Nat.zero_le _) (by simp)
theorem OwnL.of_nil : OwnL f z e B w (.slice none 0 0) ([] : List α) := World.ownsRow_nil w B e z
end

section
variable {α : Type} {f : α → List Value} {e : TypeId} {B g n c : Nat} {w : World} {xs : List Value}
theorem own_put1 {o : Nat} (h : w.ownsRow B e 1 (.slice (some ⟨g, 0, none⟩) n c) n xs) (a : Value) (hl : o < xs.length) :
    (w.setCell ⟨g, o, none⟩ a).ownsRow B e 1 (.slice (some ⟨g, 0, none⟩) n c) n (putAt xs o [a]) := by
  have h1 := (h.stored o a).1
  rw [put1 xs o a hl] at h1
  exact h1
theorem own_first {z o : Nat} (h : w.ownsRow B e z (.slice (some ⟨g, 0, none⟩) n c) n xs) (a : Value) (hl : o < xs.length) :
    (w.setCell ⟨g, o, none⟩ a).ownsRow B e z (.slice (some ⟨g, 0, none⟩) n c) n (putAt xs o [a]) := by
  have h1 := (h.stored o a).1
  rw [put1 xs o a hl] at h1
  exact h1
theorem own_next {z o : Nat} {cs : List Value} (h : w.ownsRow B e z (.slice (some ⟨g, 0, none⟩) n c) n (putAt xs o cs)) (a : Value) (hl : o + cs.length < xs.length) :
    (w.setCell ⟨g, o + cs.length, none⟩ a).ownsRow B e z (.slice (some ⟨g, 0, none⟩) n c) n (putAt xs o (cs ++ [a])) := by
  have h1 := (h.stored (o + cs.length) a).1
  rw [put_put xs o cs a hl] at h1
  exact h1
theorem own_put2 {z o : Nat} (h : w.ownsRow B e z (.slice (some ⟨g, 0, none⟩) n c) n xs) (a b : Value) (hl : o + 1 < xs.length) :
    ((w.setCell ⟨g, o, none⟩ a).setCell ⟨g, o + 1, none⟩ b).ownsRow B e z (.slice (some ⟨g, 0, none⟩) n c) n (putAt xs o [a, b]) :=
  own_next (cs := [a]) (own_first h a (by omega)) b hl
theorem own_put3 {z o : Nat} (h : w.ownsRow B e z (.slice (some ⟨g, 0, none⟩) n c) n xs) (a b d : Value) (hl : o + 2 < xs.length) :
    (((w.setCell ⟨g, o, none⟩ a).setCell ⟨g, o + 1, none⟩ b).setCell ⟨g, o + 2, none⟩ d).ownsRow B e z (.slice (some ⟨g, 0, none⟩) n c) n (putAt xs o [a, b, d]) :=
  own_next (cs := [a, b]) (own_put2 h a b (by omega)) d hl
theorem own_put4 {z o : Nat} (h : w.ownsRow B e z (.slice (some ⟨g, 0, none⟩) n c) n xs) (a b d d' : Value) (hl : o + 3 < xs.length) :
    ((((w.setCell ⟨g, o, none⟩ a).setCell ⟨g, o + 1, none⟩ b).setCell ⟨g, o + 2, none⟩ d).setCell ⟨g, o + 3, none⟩ d').ownsRow B e z (.slice (some ⟨g, 0, none⟩) n c) n (putAt xs o [a, b, d, d']) :=
  own_next (cs := [a, b, d]) (own_put3 h a b d (by omega)) d' hl
theorem made_flat {z : Nat} (hf : ∀ a, (f a).length = z) (hz : 0 < z) (a : α) (zc : Array Value) (h : f a = zc.toList) (n : Nat) : (madeCells zc (n * z)).toList = flat f (List.replicate n a) := by
  have hs : zc.size = z := by rw [← hf a, h]; simp
  apply List.ext_getElem?
  intro i
  by_cases hi : i < n * z
  · have hk : i / z < n := Nat.div_lt_of_lt_mul (by rw [Nat.mul_comm]; exact hi)
    have e : i = i / z * z + i % z := by rw [Nat.mul_comm]; exact (Nat.div_add_mod i z).symm
    rw [e, flat_get hf (a := a) (by simp [hk]) (Nat.mod_lt _ hz), h, ← e]
    have hm : i % z < zc.size := by rw [hs]; exact Nat.mod_lt _ hz
    simp [madeCells, hi, hs]
    rw [getElem!_pos zc (i % z) hm, getElem?_pos zc (i % z) hm]
  · rw [List.getElem?_eq_none (by simp [madeCells]; omega), List.getElem?_eq_none (by rw [flat_len hf]; simp; omega)]
end
theorem fill_len {α : Type} (l : List α) (k : Nat) (a : α) (h : k ≤ l.length) : (l.take k ++ List.replicate (l.length - k) a).length = l.length := by simp; omega
theorem fill_get {α : Type} (l : List α) (k : Nat) (a : α) (h : k < l.length) : (l.take k ++ List.replicate (l.length - k) a)[k]? = some a := by
  rw [List.getElem?_append_right (by simp; omega)]
  have e : k - (l.take k).length = 0 := by simp; omega
  rw [e, List.getElem?_replicate, if_pos (by omega)]
theorem fill_set {α : Type} (l : List α) (k : Nat) (a b : α) (h : l[k]? = some b) : (l.take k ++ List.replicate (l.length - k) a).set k b = l.take (k + 1) ++ List.replicate (l.length - (k + 1)) a := by
  obtain ⟨hk, rfl⟩ := List.getElem?_eq_some_iff.1 h
  have e : l.length - k = (l.length - (k + 1)) + 1 := by omega
  rw [e, List.replicate_succ, List.set_append_right _ _ (by simp; omega)]
  have e2 : k - (l.take k).length = 0 := by simp; omega
  rw [e2, List.set_cons_zero, List.take_succ_eq_append_getElem hk, List.append_assoc]; rfl
/-- a fresh slice with list l is returned; nothing old has turned -/
def RetL {α : Type} (f : α → List Value) (z : Nat) (e : TypeId) (w : World) (l : List α) (r : Ending) (w' : World) : Prop :=
  ∃ v, r = .returned v ∧ OwnL f z e w.heap.size w' v l ∧ Below w.heap.size w w'

theorem gtrans {a b c : World} {row : Option Nat} (h : a.grownBy b row) (k : b.grownBy c row) : a.grownBy c row :=
  ⟨k.os.trans h.os, k.tape.trans h.tape, k.output.trans h.output, Nat.le_trans h.size k.size, fun i hi hne => (k.block i (Nat.lt_of_lt_of_le hi h.size) hne).trans (h.block i hi hne)⟩
theorem gset {a w : World} {g : Nat} (h : a.grownBy w (some g)) (o : Nat) (u : Value) : a.grownBy (w.setCell ⟨g, o, none⟩ u) (some g) :=
  ⟨h.os, h.tape, h.output, by simpa [World.setCell] using h.size, fun i hi hne => (Below.heap_setCell w ⟨g, o, none⟩ u i (by rintro rfl; exact hne rfl)).trans (h.block i hi hne)⟩
/-- append of one element, just built, to a slice of the call's own -/
theorem wpList_app1 {P : Program} {α : Type} (f : α → List Value) (z : Nat) (hf : ∀ a, (f a).length = z) (w : World) {ops : Array Oper} {rest : List Oper} {o : Oper} {a : Act} {Q : Exit → Act → World → Prop} (hgd : o.guard = none) (s x : Operand) (t : TypeId)
    (ho : o.op = .call { callee := .builtin .append, args := #[s, x], argTypes := #[t, t] })
    (B : Nat) (e : TypeId) (i : TypeInfo) (zv : Value) (bytes : Nat) (ht : P.underlying t = some (.slice e)) (hi : P.info? e = some i) (hz : i.zero = some zv)
    (hsize : i.size = z) (hby : i.bytes = bytes) (hzs : zv.cells.size = z) (hsz : 0 < z)
    (v : Value) (l : List α) (hs : a.eval s = v) (hown : OwnL f z e B w v l)
    (gx c : Nat) (el : α) (hx : a.eval x = .slice (some ⟨gx, 0, none⟩) 1 c) (hnews : ∀ j u, (f el)[j]? = some u → w.cell? ⟨gx, j, none⟩ = some u) (h1 : ∀ u ∈ f el, u.oneCell' = true)
    (hn : l.length + 1 ≤ 16777216) (hbytes : bytes ≤ 4096) (hbase : B ≤ w.heap.size)
    (h : ∀ v' w', OwnL f z e B w' v' (l ++ [el]) → w.grownBy w' v.ownBlock → wpList P ops Q rest (a.put o.dst v') w') : wpList P ops Q (o :: rest) a w := by
  refine wpList_append_own w hgd s x t ho B e i zv z bytes ht hi hz hsize hby hzs hsz v l.length (flat f l) hs hown ⟨gx, 0, none⟩ 1 c (f el) hx (by rw [hf]; omega) ?_ h1 (by unfold maxLen; omega) ?_ hbase ?_
  · intro j u hu
    have e2 : (⟨gx, 0, none⟩ : Addr).add j = ⟨gx, j, none⟩ := by unfold Addr.add; split <;> simp_all
    rw [e2]; exact hnews j u hu
  · have : (l.length + 1) * bytes ≤ 16777216 * 4096 := Nat.mul_le_mul hn hbytes
    omega
  · intro v' w' h2 h3 _
    refine h v' w' ?_ h3
    unfold OwnL
    rw [flat_app, List.length_append]
    simpa [flat] using h2
/-- append of all of a slice of the call's own to another one -/
theorem wpList_appAll {P : Program} {α : Type} (f : α → List Value) (z : Nat) (hf : ∀ a, (f a).length = z) (w : World) {ops : Array Oper} {rest : List Oper} {o : Oper} {a : Act} {Q : Exit → Act → World → Prop} (hgd : o.guard = none) (s x : Operand) (t : TypeId)
    (ho : o.op = .call { callee := .builtin .append, args := #[s, x], argTypes := #[t, t] })
    (B B' : Nat) (e e' : TypeId) (i : TypeInfo) (zv : Value) (bytes : Nat) (ht : P.underlying t = some (.slice e)) (hi : P.info? e = some i) (hz : i.zero = some zv)
    (hsize : i.size = z) (hby : i.bytes = bytes) (hzs : zv.cells.size = z) (hsz : 0 < z)
    (v : Value) (l : List α) (hs : a.eval s = v) (hown : OwnL f z e B w v l)
    (vx : Value) (lx : List α) (hx : a.eval x = vx) (hownx : OwnL f z e' B' w vx lx) (h1 : ∀ b, ∀ u ∈ f b, u.oneCell' = true)
    (hn : l.length + lx.length ≤ 16777216) (hbytes : bytes ≤ 4096) (hbase : B ≤ w.heap.size)
    (h : ∀ v' w', OwnL f z e B w' v' (l ++ lx) → w.grownBy w' v.ownBlock → wpList P ops Q rest (a.put o.dst v') w') : wpList P ops Q (o :: rest) a w := by
  rcases hownx.2 with ⟨rfl, hl0⟩ | ⟨g, cap, cur, rfl, _, hh, hnc, _, hcs, htk⟩
  · obtain rfl : lx = [] := List.eq_nil_of_length_eq_zero hl0
    exact wpList_append_own_none hgd s x t ho B e i z ht hi v l.length (flat f l) hs hown hx (h v w (by simpa using hown) (World.grownBy.refl w _))
  · refine wpList_append_own w hgd s x t ho B e i zv z bytes ht hi hz hsize hby hzs hsz v l.length (flat f l) hs hown ⟨g, 0, none⟩ lx.length cap (flat f lx) hx (flat_len hf lx) (hownx.cells (g := g) rfl) (fun u hu => by
      obtain ⟨b, _, hb⟩ := List.mem_flatMap.1 hu
      exact h1 b u hb) (by unfold maxLen; omega) ?_ hbase ?_
    · have : (l.length + lx.length) * bytes ≤ 16777216 * 4096 := Nat.mul_le_mul hn hbytes
      omega
    · intro v' w' h2 h3 _
      refine h v' w' ?_ h3
      unfold OwnL
      rw [flat_app, List.length_append]
      exact h2
theorem own_grown_below {α : Type} {f : α → List Value} {z : Nat} {e : TypeId} {B K : Nat} {w0 w w' : World} {v : Value} {l : List α} (h : OwnL f z e B w v l) (hb : Below K w0 w) (hg : w.grownBy w' v.ownBlock) (hK : K ≤ B) (hs : K ≤ w.heap.size) : Below K w0 w' :=
  hb.grown hg hs (fun k hk => by have := (h.lt k hk).1; omega)

/-- a slice that came in: a list at whatever place -/
def RawL {α : Type} (f : α → List Value) (z : Nat) (w : World) (v : Value) (l : List α) : Prop :=
  ∃ A c, v = .slice A l.length c ∧ l.length ≤ maxLen ∧ (l = [] ∨ ∃ b o, A = some ⟨b, o, none⟩ ∧ b < w.heap.size ∧ ∀ (k : Nat) (a : α) (j : Nat) (u : Value), l[k]? = some a → (f a)[j]? = some u → w.cell? ⟨b, o + k * z + j, none⟩ = some u)
theorem RawL.below {α : Type} {f : α → List Value} {z : Nat} {w w' : World} {v : Value} {l : List α} (h : RawL f z w v l) (hb : Below w.heap.size w w') : RawL f z w' v l := by
  obtain ⟨A, c, rfl, hm, h⟩ := h
  refine ⟨A, c, rfl, hm, ?_⟩
  rcases h with h | ⟨b, o, rfl, hlt, hc⟩
  · exact .inl h
  · exact .inr ⟨b, o, rfl, Nat.lt_of_lt_of_le hlt hb.size, fun k a j u h1 h2 => (hb.cell (p := ⟨b, _, none⟩) hlt).trans (hc k a j u h1 h2)⟩

/-- w' is w with new blocks, and writes to blocks from B up to E alone -/
structure Chg (B E : Nat) (w w' : World) : Prop where
  os : w'.os = w.os
  tape : w'.tape = w.tape
  output : w'.output = w.output
  size : w.heap.size ≤ w'.heap.size
  block : ∀ k, k < w.heap.size → ¬ (B ≤ k ∧ k < E) → w'.heap[k]? = w.heap[k]?
theorem Chg.of_below {B E : Nat} {w w' : World} (h : Below w.heap.size w w') : Chg B E w w' := ⟨h.os, h.tape, h.output, h.size, fun k hk _ => h.block k hk⟩
theorem Chg.below {B E K : Nat} {w0 w w' : World} (h : Below K w0 w) (hc : Chg B E w w') (hB : K ≤ B) (hK : K ≤ w0.heap.size) : Below K w0 w' :=
  h.trans ⟨hc.os, hc.tape, hc.output, hc.size, fun k hk => hc.block k (Nat.lt_of_lt_of_le hk (Nat.le_trans hK h.size)) (by omega)⟩
theorem Chg.trans {B E : Nat} {a b c : World} (h : Chg B E a b) (k : Chg B E b c) : Chg B E a c :=
  ⟨k.os.trans h.os, k.tape.trans h.tape, k.output.trans h.output, Nat.le_trans h.size k.size, fun i hi hne => (k.block i (Nat.lt_of_lt_of_le hi h.size) hne).trans (h.block i hi hne)⟩
theorem Chg.mono {B E B' E' : Nat} {w w' : World} (h : Chg B E w w') (hB : B' ≤ B) (hE : E ≤ E') : Chg B' E' w w' :=
  ⟨h.os, h.tape, h.output, h.size, fun k hk hne => h.block k hk (by omega)⟩
theorem Chg.of_grown {B E : Nat} {w w' : World} {row : Option Nat} (h : w.grownBy w' row) (hr : ∀ g, row = some g → B ≤ g ∧ g < E) : Chg B E w w' :=
  ⟨h.os, h.tape, h.output, h.size, fun k hk hne => h.block k hk (fun e => hne (hr k e.symm))⟩

/-- how the values of a Go type stand in memory -/
structure Rep (α : Type) where
  own : Nat → Nat → World → Value → α → Prop
  raw : World → Value → α → Prop
  wt : α → Nat
  cnt : α → Nat
  mark : Nat → α → α
  chg : ∀ {B E B' E' : Nat} {w w' : World} {v : Value} {x : α}, own B E w v x → Chg B' E' w w' → (E ≤ B' ∨ E' ≤ B) → own B E w' v x
  rawk : ∀ {w w' : World} {v : Value} {x : α}, raw w v x → Below w.heap.size w w' → raw w' v x
theorem Rep.keep {α : Type} {R : Rep α} {B E : Nat} {w w' : World} {v : Value} {x : α} (h : R.own B E w v x) (hb : Below w.heap.size w w') : R.own B E w' v x :=
  R.chg h (Chg.of_below (B := E) (E := E) hb) (.inl (Nat.le_refl _))
def Rep.ret {α : Type} (R : Rep α) (w : World) (x : α) (e : Ending) (w' : World) : Prop := ∃ v, e = .returned v ∧ R.own w.heap.size w'.heap.size w' v x ∧ Below w.heap.size w w'
/-- the same, beside a whole number -/
def Rep.retI {α : Type} (R : Rep α) (w : World) (x : α) (c : Int) (e : Ending) (w' : World) : Prop := ∃ v, e = .returned (.tuple #[v, .int .i64 c]) ∧ R.own w.heap.size w'.heap.size w' v x ∧ Below w.heap.size w w'
def Rep.marked {α : Type} (R : Rep α) (B E : Nat) (w : World) (v : Value) (k0 : Nat) (x : α) (e : Ending) (w' : World) : Prop :=
  e = .returned (.int .i64 ((k0 + R.cnt x : Nat) : Int)) ∧ R.own B E w' v (R.mark k0 x) ∧ Chg B E w w'
def RepL {α : Type} (f : α → List Value) (z : Nat) (e : TypeId) (wt : α → Nat) (ok : α → Prop) (mk : Nat → Nat → List α) : Rep (List α) where
  own B E w v l := OwnL f z e B w v l ∧ ∀ g, v.ownBlock = some g → g < E
  raw w v l := RawL f z w v l ∧ ∀ a ∈ l, ok a
  wt l := l.length + (l.map wt).foldr (· + ·) 0
  cnt l := l.length * z
  mark k l := mk k l.length
  chg := by
    intro B E B' E' w w' v x h hc hd
    refine ⟨⟨h.1.1, ?_⟩, h.2⟩
    rcases h.1.2 with hn | ⟨g, cap, cur, rfl, hbg, hh, rest⟩
    · exact .inl hn
    · have hg := h.2 g rfl
      exact .inr ⟨g, cap, cur, rfl, hbg, (hc.block g (Array.getElem?_eq_some_iff.1 hh).1 (by omega)).trans hh, rest⟩
  rawk := fun h hb => ⟨h.1.below hb, h.2⟩
theorem RetL.rep {α : Type} {f : α → List Value} {z : Nat} {e : TypeId} {wt : α → Nat} {ok : α → Prop} {mk : Nat → Nat → List α} {w w' : World} {l : List α} {r : Ending} (h : RetL f z e w l r w') : (RepL f z e wt ok mk).ret w l r w' := by
  obtain ⟨v, rfl, ho, hb⟩ := h
  exact ⟨v, rfl, ⟨ho, fun g hg => (ho.lt g hg).2⟩, hb⟩
end Go.Proofs.YtfcdienphillnaaGreat
namespace Go.Proofs.YtfcdienphillnaaGreat
set_option linter.unusedVariables false
set_option linter.unusedSimpArgs false
open Go.RowKit

def inB (x lo hi : Int) : Bool := decide (lo ≤ x) && decide (x ≤ hi)
theorem inB_yes {x lo hi : Int} (h : inB x lo hi = true) : lo ≤ x ∧ x ≤ hi := by simpa [inB] using h
theorem inB_t {x lo hi : Int} (h : lo ≤ x ∧ x ≤ hi) : inB x lo hi = true := by simpa [inB] using h
theorem inB_f {x lo hi : Int} (h : ¬ (lo ≤ x ∧ x ≤ hi)) : inB x lo hi = false := by simp [inB]; omega

theorem within_i (x lo hi : Int) (w : World) : Calls Tryz.prog 51 #[.int .i64 x, .int .i64 lo, .int .i64 hi] w fun e w' => e = .returned (.bool (inB x lo hi)) ∧ w = w' := by
  go_enter Tryz.func51, Tryz.ntmps51
  go_wp2
  all_goals (go_ret; refine ⟨ret_bool ?_, rfl⟩; unfold inB; go_tidy; first | (simp [*]; done) | (simp [*]; omega))
theorem in_s (x lo hi : Int) (w : World) : Calls Tryz.prog 43 #[.int .i64 x, .int .i64 lo, .int .i64 hi] w fun e w' => e = .returned (.bool (inB x lo hi)) ∧ w = w' := by
  go_enter Tryz.func43, Tryz.ntmps43
  go_wp2
  all_goals (go_ret; refine ⟨ret_bool ?_, rfl⟩; unfold inB; go_tidy; first | (simp [*]; done) | (simp [*]; omega))
/-- a word of two bytes -/
def word (n : Nat) : ByteArray := strOfNums [(n : Int) / 256, (n : Int) % 256]
end Go.Proofs.YtfcdienphillnaaGreat
namespace Go.Proofs.YtfcdienphillnaaGreat
set_option linter.unusedVariables false
set_option linter.unusedSimpArgs false
open Go.RowKit
structure Src where
  kind : Int
  sector : Int
  dump : Int
def Src.cells (e : Src) : List Value := [.int .i64 e.kind, .int .i64 e.sector, .int .i64 e.dump]
end Go.Proofs.YtfcdienphillnaaGreat
namespace Go.Proofs.YtfcdienphillnaaGreat
set_option linter.unusedVariables false
set_option linter.unusedSimpArgs false
open Go.RowKit

theorem Src.len (e : Src) : e.cells.length = 3 := rfl
def Src.wt (e : Src) : Nat := 0
def Src.wts (l : List Src) : Nat := (l.map Src.wt).foldr (· + ·) 0
theorem Src.wts_drop {l : List Src} {k : Nat} {e : Src} (he : l[k]? = some e) : Src.wts (l.drop k) = Src.wt e + Src.wts (l.drop (k + 1)) := by
  obtain ⟨h, rfl⟩ := List.getElem?_eq_some_iff.1 he
  rw [List.drop_eq_getElem_cons h]; rfl
theorem Src.info : (Tryz.prog.info? 83).map (fun i => (i.zero, i.size, i.bytes)) = some (some (.agg #[.int .i64 0, .int .i64 0, .int .i64 0]), 3, 24) := by kernel_rfl
def Src.zero : Src := ⟨0, 0, 0⟩
instance : Inhabited Src := ⟨Src.zero⟩

def Src.mark (k : Nat) : Src := ⟨((k : Nat) : Int), ((k + 1 : Nat) : Int), ((k + 2 : Nat) : Int)⟩
def Src.marks (k n : Nat) : List Src := (List.range n).map fun i => Src.mark (k + i * 3)
theorem Src.marks_len (k n : Nat) : (Src.marks k n).length = n := by simp [Src.marks]
theorem Src.marks_get (k n i : Nat) (h : i < n) : (Src.marks k n)[i]? = some (Src.mark (k + i * 3)) := by simp [Src.marks, h]
theorem Src.marks_succ (k n : Nat) : Src.marks k (n + 1) = Src.marks k n ++ [Src.mark (k + n * 3)] := by simp [Src.marks, List.range_succ]
theorem Src.mid_get (k0 k : Nat) (l : List Src) : (Src.marks k0 k ++ l.drop k)[k]? = l[k]? := by
  rw [List.getElem?_append_right (by rw [Src.marks_len]; omega), Src.marks_len, Nat.sub_self, List.getElem?_drop, Nat.add_zero]
theorem Src.mid_len (k0 k : Nat) (l : List Src) (h : k ≤ l.length) : (Src.marks k0 k ++ l.drop k).length = l.length := by simp [Src.marks_len]; omega
theorem Src.mid_set (k0 k : Nat) (l : List Src) (h : k < l.length) : (Src.marks k0 k ++ l.drop k).set k (Src.mark (k0 + k * 3)) = Src.marks k0 (k + 1) ++ l.drop (k + 1) := by
  rw [List.set_append_right _ _ (by rw [Src.marks_len]; omega), Src.marks_len, Nat.sub_self, List.drop_eq_getElem_cons h, List.set_cons_zero, Src.marks_succ, List.append_assoc]; rfl
def MarkedSource (B : Nat) (w : World) (v : Value) (k0 n : Nat) (e : Ending) (w' : World) : Prop :=
  e = .returned (.int .i64 ((k0 + n * 3 : Nat) : Int)) ∧ OwnL Src.cells 3 83 B w' v (Src.marks k0 n) ∧ w.grownBy w' v.ownBlock

/-- []impl.Source in memory -/
def RSourceS : Rep (List Src) := RepL Src.cells 3 83 Src.wt (fun e => True) Src.marks
end Go.Proofs.YtfcdienphillnaaGreat
namespace Go.Proofs.YtfcdienphillnaaGreat
set_option linter.unusedVariables false
set_option linter.unusedSimpArgs false
open Go.RowKit

theorem Chg.set {B E : Nat} {w w' : World} (h : Chg B E w w') {g o : Nat} {u : Value} (hg : B ≤ g ∧ g < E) : Chg B E w (w'.setCell ⟨g, o, none⟩ u) :=
  ⟨h.os, h.tape, h.output, by simpa using h.size, fun i hi hne => (Below.heap_setCell _ _ _ i (by rintro rfl; exact hne hg)).trans (h.block i hi hne)⟩
end Go.Proofs.YtfcdienphillnaaGreat
namespace Go.Proofs.YtfcdienphillnaaGreat
set_option linter.unusedVariables false
set_option linter.unusedSimpArgs false
open Go.RowKit

def srcOk (last : Int) (s : Src) : Bool := inB s.kind 1 4 && (inB s.sector (last + 1) 127 && (inB s.dump 0 4 && !(s.dump != 0 && s.kind != 1)))
def certFrom : Int → List Src → Bool
  | _, [] => true
  | last, s :: r => srcOk last s && certFrom s.sector r
def certOk (l : List Src) : Bool := certFrom (-1) l
end Go.Proofs.YtfcdienphillnaaGreat
namespace Go.Proofs.YtfcdienphillnaaGreat
set_option linter.unusedVariables false
set_option linter.unusedSimpArgs false
open Go.RowKit
end Go.Proofs.YtfcdienphillnaaGreat
