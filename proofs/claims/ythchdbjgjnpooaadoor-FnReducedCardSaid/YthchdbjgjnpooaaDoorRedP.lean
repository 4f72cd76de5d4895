/- Lists that are solved row by row: steps of the walk. -/
import Derived.Test.YthchdbjgjnpooaaDoorLowI
import Derived.StillTailTactics
namespace Go.Proofs.YthchdbjgjnpooaaDoor
set_option linter.unusedVariables false
set_option linter.unusedSimpArgs false
open Go.RowKit
theorem region_s0 {P : Program} {id : Nat} {Q : Exit → Act → World → Prop} {a : Act} {w : World} {ops : Array Oper} (hm : P.follows .mixedOrders = true) (hB : Region.lexB .any ops = true)
    (h : ∀ w6, w6 = w.drew → wpStill P ops w6 (fun a' => Q .normal a' w6) ops.toList a) : (Code.region id ops true).wp P Q a w := wp_region_still hm hB (h _ rfl)
theorem still_c {P : Program} {f : FuncId} {args : Array Value} {w : World} {v : Value} (h : Calls P f args w fun e w' => e = .returned v ∧ w = w') : Calls P f args w fun e w' => e = .returned v ∧ w' = w :=
  h.mono fun _ _ ⟨a, b⟩ => ⟨a, b.symm⟩
theorem box2 (w : World) (a b : Value) (e : TypeId) : (w.alloc (.cells #[a, b] e)).drew.cell? ⟨w.heap.size, 0, none⟩ = some a ∧ (w.alloc (.cells #[a, b] e)).drew.cell? ⟨w.heap.size, 1, none⟩ = some b ∧ (w.alloc (.cells #[a, b] e)).drew.frozen? ⟨w.heap.size, 0, none⟩ = false ∧ (w.alloc (.cells #[a, b] e)).drew.frozen? ⟨w.heap.size, 1, none⟩ = false ∧ Below w.heap.size w (w.alloc (.cells #[a, b] e)).drew ∧ w.heap.size < (w.alloc (.cells #[a, b] e)).drew.heap.size := by
  refine ⟨?_, ?_, ?_, ?_, (Below.alloc (Below.refl _ _) (Nat.le_refl _) _).drew, by simp⟩ <;> simp [go_sem]
theorem redI_cons {p : Nat → Nat} {ol rs : List Rw} {r r' : Rw} (h : ol.foldl (clr p) r = r') : redI p ol (r :: rs) = if r'.m = 0 then (if r'.r then none else redI p ol rs) else redI p (ol.map (fun k => clr (fun _ => p r'.m) k r') ++ [r']) rs := by rw [redI, h]
theorem rd_none {p : Nat → Nat} {ol l : List Rw} {k : Nat} {r r' : Rw} {X : Option (List Rw)} (hg : l[k]? = some r) (H : Hid (X = redI p ol (l.drop k))) (h : ol.foldl (clr p) r = r') (h0 : r'.m = 0) (h1 : r'.r = true) : X = none := by
  obtain ⟨hk, rfl⟩ := List.getElem?_eq_some_iff.1 hg
  rw [H.out, List.drop_eq_getElem_cons hk, redI_cons h, if_pos h0, if_pos h1]
theorem rd_skip {p : Nat → Nat} {ol l : List Rw} {k : Nat} {r r' : Rw} {X : Option (List Rw)} (hg : l[k]? = some r) (H : Hid (X = redI p ol (l.drop k))) (h : ol.foldl (clr p) r = r') (h0 : r'.m = 0) (h1 : r'.r = false) : Hid (X = redI p ol (l.drop (k + 1))) := by
  obtain ⟨hk, rfl⟩ := List.getElem?_eq_some_iff.1 hg
  exact Lib.hid (by rw [H.out, List.drop_eq_getElem_cons hk, redI_cons h, if_pos h0, if_neg (by rw [h1]; decide)])
theorem rd_more {p : Nat → Nat} {ol l : List Rw} {k : Nat} {r r' : Rw} {X : Option (List Rw)} (hg : l[k]? = some r) (H : Hid (X = redI p ol (l.drop k))) (h : ol.foldl (clr p) r = r') (h0 : r'.m ≠ 0) : Hid (X = redI p (ol.map (fun k => clr (fun _ => p r'.m) k r') ++ [r']) (l.drop (k + 1))) := by
  obtain ⟨hk, rfl⟩ := List.getElem?_eq_some_iff.1 hg
  exact Lib.hid (by rw [H.out, List.drop_eq_getElem_cons hk, redI_cons h, if_neg h0])
theorem rd_end {p : Nat → Nat} {ol l : List Rw} {k : Nat} {X : Option (List Rw)} (hk : l.length ≤ k) (H : Hid (X = redI p ol (l.drop k))) : X = some ol := by
  rw [H.out, List.drop_of_length_le hk, redI]
theorem fo_yes {p : Nat → Nat} {ol : List Rw} {j : Nat} {r kn : Rw} {X : Rw} (hj : ol[j]? = some kn) (H : Hid (X = (ol.drop j).foldl (clr p) r)) (h : r.m.testBit (p kn.m) = true) : Hid (X = (ol.drop (j + 1)).foldl (clr p) (r.add kn)) := by
  obtain ⟨hk, rfl⟩ := List.getElem?_eq_some_iff.1 hj
  exact Lib.hid (by rw [H.out, List.drop_eq_getElem_cons hk, List.foldl_cons, clr, if_pos h])
theorem fo_no {p : Nat → Nat} {ol : List Rw} {j : Nat} {r kn : Rw} {X : Rw} (hj : ol[j]? = some kn) (H : Hid (X = (ol.drop j).foldl (clr p) r)) (h : r.m.testBit (p kn.m) = false) : Hid (X = (ol.drop (j + 1)).foldl (clr p) r) := by
  obtain ⟨hk, rfl⟩ := List.getElem?_eq_some_iff.1 hj
  exact Lib.hid (by rw [H.out, List.drop_eq_getElem_cons hk, List.foldl_cons, clr, if_neg (by rw [h]; decide)])
theorem fo_end {p : Nat → Nat} {ol : List Rw} {j : Nat} {r : Rw} {X : Rw} (hk : ol.length ≤ j) (H : Hid (X = (ol.drop j).foldl (clr p) r)) : X = r := by
  rw [H.out, List.drop_of_length_le hk]; rfl
/-- the first j elements turned -/
def mapT (F : Rw → Rw) (j : Nat) (l : List Rw) : List Rw := (l.take j).map F ++ l.drop j
theorem mapT_len (F : Rw → Rw) (j : Nat) (l : List Rw) : (mapT F j l).length = l.length := by simp [mapT]; omega
theorem mapT_get {F : Rw → Rw} {j : Nat} {l : List Rw} {a : Rw} (h : l[j]? = some a) : (mapT F j l)[j]? = some a := by
  obtain ⟨hk, rfl⟩ := List.getElem?_eq_some_iff.1 h
  unfold mapT
  rw [List.getElem?_append_right (by simp; omega)]
  simp
  rw [show j - min j l.length = 0 by omega]; simp [hk]
theorem mapT_next {F : Rw → Rw} {j : Nat} {l : List Rw} {a : Rw} (h : l[j]? = some a) : (mapT F j l).set j (F a) = mapT F (j + 1) l := by
  obtain ⟨hk, rfl⟩ := List.getElem?_eq_some_iff.1 h
  unfold mapT
  have hm : ((l.take j).map F).length = j := by simp; omega
  rw [List.set_append_right _ _ (by omega), hm, Nat.sub_self, List.drop_eq_getElem_cons hk, List.set_cons_zero, List.take_succ_eq_append_getElem hk, List.map_append, List.append_assoc]; rfl
theorem mapT_same {F : Rw → Rw} {j : Nat} {l : List Rw} {a : Rw} (h : l[j]? = some a) (hF : F a = a) : mapT F (j + 1) l = mapT F j l := by
  rw [← mapT_next h, hF]
  have h2 := mapT_get (F := F) h
  obtain ⟨h3, h4⟩ := List.getElem?_eq_some_iff.1 h2
  conv => lhs; arg 3; rw [← h4]
  rw [List.set_getElem_self]
theorem mapT_zero (F : Rw → Rw) (l : List Rw) : mapT F 0 l = l := by simp [mapT]
theorem mapT_end (F : Rw → Rw) (l : List Rw) : mapT F l.length l = l.map F := by simp [mapT]
theorem OwnL.set2 {κ : IntKind} {e : TypeId} {B g n c k : Nat} {w : World} {l : List Rw} {a a' : Rw} (h : OwnL (rc κ) 2 e B w (.slice (some ⟨g, 0, none⟩) n c) l) (hk : l[k]? = some a) :
    OwnL (rc κ) 2 e B ((w.setCell ⟨g, k * 2, none⟩ (.int .u64 a'.m)).setCell ⟨g, k * 2 + 1, none⟩ (.int κ (bi a'.r))) (.slice (some ⟨g, 0, none⟩) n c) (l.set k a') := by
  have h1 := OwnL.set1 (rc_len κ) h hk (j := 0) (a' := ⟨a'.m, a.r⟩) (u := .int .u64 a'.m) (by omega) rfl
  have hl := (List.getElem?_eq_some_iff.1 hk).1
  have h2 := OwnL.set1 (rc_len κ) h1 (k := k) (a := ⟨a'.m, a.r⟩) (by rw [List.getElem?_set_self hl]) (j := 1) (a' := a') (u := .int κ (bi a'.r)) (by omega) rfl
  rw [List.set_set] at h2
  exact h2
theorem xor64 {a b : Nat} (ha : a < 18446744073709551616) (hb : b < 18446744073709551616) : a ^^^ b < 18446744073709551616 := Nat.xor_lt_two_pow (n := 64) ha hb
end Go.Proofs.YthchdbjgjnpooaaDoor
