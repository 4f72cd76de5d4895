/- The rows of the equations, made bit by bit. Plain laws. -/
import Derived.Test.YtklalbbacbaoiaaRwL
import Derived.Test.YtklalbbacbaoiaaRises
namespace Go.Proofs.Ytklalbbacbaoiaa
set_option linter.unusedVariables false
open Go.RowKit
/-- the rows: K unknown bits in all, one more in the first i of them -/
def rowsP (n : Nat) (unk : List Nat) (rest K i : Nat) : List Rw := (List.range 16).map fun j => ⟨maskR n unk j (if j < i then K + 1 else K), rest.testBit (15 - j)⟩
/-- the right sides of the first i rows -/
def rowsB (rest i : Nat) : List Rw := (List.range 16).map fun j => ⟨0, decide (j < i) && rest.testBit (15 - j)⟩
def rowsT (rest i : Nat) : List Rw := (List.range i).map fun j => ⟨0, rest.testBit (15 - j)⟩
theorem rowsP_len (n : Nat) (unk : List Nat) (rest K i : Nat) : (rowsP n unk rest K i).length = 16 := by simp [rowsP]
theorem rowsB_len (rest i : Nat) : (rowsB rest i).length = 16 := by simp [rowsB]
theorem rowsT_len (rest i : Nat) : (rowsT rest i).length = i := by simp [rowsT]
theorem map_range_get {α : Type} {f : Nat → α} {n i : Nat} (h : i < n) : ((List.range n).map f)[i]? = some (f i) := by simp [h]
theorem map_range_set {α : Type} {f g : Nat → α} {n i : Nat} {x : α} (hx : g i = x) (h : ∀ j, j < n → j ≠ i → f j = g j) : ((List.range n).map f).set i x = (List.range n).map g := by
  apply List.ext_getElem
  · simp
  · intro j h1 h2
    have hj : j < n := by simpa using h2
    rw [List.getElem_set]
    split
    · rename_i e; subst e; simp [hx]
    · rename_i e; simp [h j hj (Ne.symm e)]
theorem map_range_congr {α : Type} {f g : Nat → α} {n : Nat} (h : ∀ j, j < n → f j = g j) : (List.range n).map f = (List.range n).map g := List.map_congr_left fun j hj => h j (List.mem_range.1 hj)
theorem rowsP_all (n : Nat) (unk : List Nat) (rest K : Nat) : rowsP n unk rest K 16 = rowsP n unk rest (K + 1) 0 := map_range_congr fun j hj => by rw [if_pos hj, if_neg (by omega)]
theorem rowsP_end (n : Nat) (unk : List Nat) (rest : Nat) : rowsP n unk rest unk.length 0 = rowsR n unk rest := map_range_congr fun j hj => by rw [if_neg (by omega)]
theorem rowsP_get {n : Nat} {unk : List Nat} {rest K i : Nat} (h : i < 16) : (rowsP n unk rest K i)[i]? = some ⟨maskR n unk i K, rest.testBit (15 - i)⟩ := by
  unfold rowsP; rw [map_range_get h, if_neg (by omega)]
theorem rowsP_set {n : Nat} {unk : List Nat} {rest K i : Nat} : (rowsP n unk rest K i).set i ⟨maskR n unk i (K + 1), rest.testBit (15 - i)⟩ = rowsP n unk rest K (i + 1) :=
  map_range_set (by rw [if_pos (by omega)]) fun j _ hne => by
    by_cases h : j < i
    · rw [if_pos h, if_pos (by omega)]
    · rw [if_neg h, if_neg (by omega)]
theorem rowsP_same {n : Nat} {unk : List Nat} {rest K i : Nat} (h : maskR n unk i (K + 1) = maskR n unk i K) : rowsP n unk rest K (i + 1) = rowsP n unk rest K i := by
  by_cases hi : i < 16
  · rw [← rowsP_set, h]
    have := rowsP_get (n := n) (unk := unk) (rest := rest) (K := K) hi
    obtain ⟨h1, h2⟩ := List.getElem?_eq_some_iff.1 this
    rw [← h2, List.set_getElem_self]
  · exact map_range_congr fun j hj => by rw [if_pos (by omega), if_pos (by omega)]
theorem rowsB_zero (rest : Nat) : rowsB rest 0 = List.replicate 16 ⟨0, false⟩ := rfl
theorem rowsB_get {rest i : Nat} (h : i < 16) : (rowsB rest i)[i]? = some ⟨0, false⟩ := by
  unfold rowsB; rw [map_range_get h, decide_eq_false (by omega)]; rfl
theorem rowsB_set {rest i : Nat} : (rowsB rest i).set i ⟨0, rest.testBit (15 - i)⟩ = rowsB rest (i + 1) :=
  map_range_set (by rw [decide_eq_true (by omega)]; rfl) fun j _ hne => by
    by_cases h : j < i
    · rw [decide_eq_true h, decide_eq_true (by omega)]
    · rw [decide_eq_false h, decide_eq_false (by omega)]
theorem rowsB_end (n : Nat) (unk : List Nat) (rest : Nat) : rowsB rest 16 = rowsP n unk rest 0 0 := map_range_congr fun j hj => by rw [decide_eq_true hj, if_neg (by omega)]; rfl
theorem rowsT_zero (rest : Nat) : rowsT rest 0 = [] := rfl
theorem rowsT_next (rest i : Nat) : rowsT rest (i + 1) = rowsT rest i ++ [⟨0, rest.testBit (15 - i)⟩] := by simp [rowsT, List.range_succ]
theorem rowsT_end (n : Nat) (unk : List Nat) (rest : Nat) : rowsT rest 16 = rowsP n unk rest 0 0 := map_range_congr fun j hj => by rw [if_neg (by omega)]; rfl
theorem maskR_yes {n : Nat} {unk : List Nat} {i K x : Nat} (hx : unk.getD K 0 = x) (h : (effN n x).testBit (15 - i) = true) : maskR n unk i (K + 1) = maskR n unk i K ||| 2 ^ K := by
  rw [maskR, hx, if_pos h]
theorem maskR_no {n : Nat} {unk : List Nat} {i K x : Nat} (hx : unk.getD K 0 = x) (h : (effN n x).testBit (15 - i) = false) : maskR n unk i (K + 1) = maskR n unk i K := by
  rw [maskR, hx, if_neg (by rw [h]; decide)]
theorem maskR_64 (n : Nat) (unk : List Nat) (i : Nat) {K : Nat} (h : K ≤ 64) : maskR n unk i K < 18446744073709551616 :=
  Nat.lt_of_lt_of_le (maskR_lt n unk i K) (Nat.pow_le_pow_right (n := 2) (by omega) h)
/-- data, unknown bits and a check value that are as described -/
def unkOk (s : ByteArray) (l : List Int) (c : Int) : Bool := (inB s.size 1 64 && inB c 0 65535) && (decide (l.length ≤ 64) && risesB 0 (8 * s.size - 1) l)
theorem rises_low {lo hi : Int} : ∀ {l : List Int} {p : Option Int}, risesF lo hi p l = true → (∀ x ∈ l, lo ≤ x ∧ x ≤ hi) ∧ l.Pairwise (· < ·) ∧ (∀ y, p = some y → ∀ x ∈ l, y < x) := by
  intro l
  induction l with
  | nil => intro p _; exact ⟨(by intro x h; cases h), List.Pairwise.nil, (by intro y _ x h; cases h)⟩
  | cons a r ih =>
    intro p h
    rw [risesF_cons, Bool.and_eq_true, Bool.and_eq_true] at h
    obtain ⟨h1, h2, h3⟩ := ih h.2
    have hb := inB_yes h.1.1
    refine ⟨fun x hx => ?_, List.pairwise_cons.2 ⟨fun x hx => h3 a rfl x hx, h2⟩, fun y hy x hx => ?_⟩
    · rcases List.mem_cons.1 hx with rfl | hx
      · exact hb
      · exact h1 x hx
    · subst hy
      have hya : y < a := by have := h.1.2; simp [gapB] at this; exact this
      rcases List.mem_cons.1 hx with rfl | hx
      · exact hya
      · have := h3 a rfl x hx; omega
/-- unknown bits that rise, as whole numbers -/
theorem unk_nat {s : ByteArray} {l : List Int} {c : Int} (h : unkOk s l c = true) : ∃ (u : List Nat) (k : Nat), l = u.map (fun i : Nat => (i : Int)) ∧ c = k ∧ k < 65536 ∧ 1 ≤ s.size ∧ s.size ≤ 64 ∧ u.length ≤ 64 ∧ (∀ b ∈ u, b < 8 * s.size) ∧ u.Pairwise (· < ·) := by
  unfold unkOk at h
  simp only [Bool.and_eq_true, decide_eq_true_eq] at h
  obtain ⟨⟨h1, h2⟩, h3, h4⟩ := h
  have a1 := inB_yes h1
  have a2 := inB_yes h2
  obtain ⟨b1, b2, _⟩ := rises_low h4
  have e : l = (l.map Int.toNat).map (fun i : Nat => (i : Int)) := by
    rw [List.map_map]
    conv => lhs; rw [← List.map_id l]
    refine List.map_congr_left fun x hx => ?_
    have := b1 x hx
    simp only [Function.comp_apply, id_eq]; omega
  refine ⟨l.map Int.toNat, c.toNat, e, by omega, by omega, by omega, by omega, by simpa using h3, fun b hb => ?_, ?_⟩
  · obtain ⟨x, hx, rfl⟩ := List.mem_map.1 hb
    have := b1 x hx; omega
  · refine List.pairwise_map.2 (b2.imp_of_mem fun ha hb hab => ?_)
    have := b1 _ ha; have := b1 _ hb; omega
end Go.Proofs.Ytklalbbacbaoiaa
