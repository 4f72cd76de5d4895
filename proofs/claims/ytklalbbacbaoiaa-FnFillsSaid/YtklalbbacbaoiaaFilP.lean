/- Filling step by step: pivots, free bits, chosen values, parity, bits set. Plain laws. -/
import Derived.Test.YtklalbbacbaoiaaFillM
import Derived.Test.YtklalbbacbaoiaaPopc
namespace Go.Proofs.Ytklalbbacbaoiaa
set_option linter.unusedVariables false
theorem rtake_next {α : Type} {l : List α} {k : Nat} {e : α} (h : l[k]? = some e) : l.take (k + 1) = l.take k ++ [e] := by
  obtain ⟨hk, rfl⟩ := List.getElem?_eq_some_iff.1 h
  exact List.take_succ_eq_append_getElem hk
/-- the pivots of rows, as a number -/
def pivN (p : Nat → Nat) (rows : List Rw) : Nat := rows.foldl (fun P e => P ||| 2 ^ p e.m) 0
theorem pivN_next {p : Nat → Nat} {rows : List Rw} {k : Nat} {e : Rw} (h : rows[k]? = some e) : pivN p (rows.take (k + 1)) = pivN p (rows.take k) ||| 2 ^ p e.m := by
  rw [rtake_next h, pivN, List.foldl_append]; rfl
theorem pivN_snoc (p : Nat → Nat) (rows : List Rw) (e : Rw) : pivN p (rows ++ [e]) = pivN p rows ||| 2 ^ p e.m := by
  rw [pivN, List.foldl_append]; rfl
theorem pivN_lt {p : Nat → Nat} {rows : List Rw} (h : ∀ e ∈ rows, p e.m < 64) : pivN p rows < 18446744073709551616 := by
  have : ∀ (rows : List Rw) (P : Nat), (∀ e ∈ rows, p e.m < 64) → P < 2 ^ 64 → rows.foldl (fun P e => P ||| 2 ^ p e.m) P < 2 ^ 64 := by
    intro rows
    induction rows with
    | nil => intro P _ h; exact h
    | cons e rows ih => intro P h hP; exact ih _ (fun a ha => h a (by simp [ha])) (Nat.or_lt_two_pow hP (Nat.pow_lt_pow_right (by omega) (h e (by simp))))
  exact this rows 0 h (by decide)
theorem pivN_bit (p : Nat → Nat) (rows : List Rw) (j : Nat) : (pivN p rows).testBit j = isP p rows j := by
  have : ∀ (rows : List Rw) (P : Nat), (rows.foldl (fun P e => P ||| 2 ^ p e.m) P).testBit j = (P.testBit j || isP p rows j) := by
    intro rows
    induction rows with
    | nil => intro P; simp [isP]
    | cons e rows ih =>
      intro P
      rw [List.foldl_cons, ih, Nat.testBit_or, Nat.testBit_two_pow, isP, isP, List.any_cons, Bool.or_assoc]
      congr 2
  rw [pivN, this]; simp
/-- the free bits from the top, j bits looked at -/
def freeD (p : Nat → Nat) (rows : List Rw) (u j : Nat) : List Nat := (((List.range u).drop (u - j)).filter fun k => !isP p rows k).reverse
theorem freeD_zero (p : Nat → Nat) (rows : List Rw) (u : Nat) : freeD p rows u 0 = [] := by unfold freeD; rw [Nat.sub_zero, List.drop_of_length_le (by simp)]; rfl
theorem freeD_end (p : Nat → Nat) (rows : List Rw) (u : Nat) : freeD p rows u u = (freeU p rows u).reverse := by simp [freeD, freeU]
theorem freeD_next {p : Nat → Nat} {rows : List Rw} {u j q : Nat} (h : j + 1 + q = u) : freeD p rows u (j + 1) = if isP p rows q then freeD p rows u j else freeD p rows u j ++ [q] := by
  unfold freeD
  have e1 : u - (j + 1) = q := by omega
  have e2 : u - j = q + 1 := by omega
  rw [e1, e2, List.drop_eq_getElem_cons (by simp; omega), List.getElem_range, List.filter_cons]
  cases isP p rows q <;> simp
theorem freeD_len (p : Nat → Nat) (rows : List Rw) {u j : Nat} (hj : j ≤ u) : (freeD p rows u j).length ≤ j := by
  unfold freeD
  rw [List.length_reverse]
  have := List.length_filter_le (fun k => !isP p rows k) ((List.range u).drop (u - j))
  simp at this; omega
theorem selK_yes {fr : List Nat} {n i q : Nat} (h : fr[i]? = some q) (hb : n.testBit i = true) : selK fr n (i + 1) = selK fr n i ||| 2 ^ q := by
  rw [selK, if_pos hb, List.getD_eq_getElem?_getD, h]; rfl
theorem selK_no {fr : List Nat} {n i : Nat} (hb : n.testBit i = false) : selK fr n (i + 1) = selK fr n i := by
  rw [selK, if_neg (by rw [hb]; decide)]
theorem selK_lt {fr : List Nat} {n : Nat} (h : ∀ q ∈ fr, q < 64) : ∀ {i : Nat}, i ≤ fr.length → selK fr n i < 18446744073709551616
  | 0, _ => by simp [selK]
  | i + 1, hi => by
    have h1 := selK_lt (n := n) h (i := i) (by omega)
    cases hb : n.testBit i
    · rw [selK_no hb]; exact h1
    · rw [selK_yes (List.getElem?_eq_getElem (by omega)) hb]
      show _ < 2 ^ 64
      exact Nat.or_lt_two_pow h1 (Nat.pow_lt_pow_right (by omega) (h _ (List.getElem_mem _)))
theorem bit_far {n i : Nat} (hn : n < 2 ^ 62) (hi : 62 ≤ i) : n.testBit i = false :=
  Nat.testBit_lt_two_pow (Nat.lt_of_lt_of_le hn (show 2 ^ 62 ≤ 2 ^ i from Nat.pow_le_pow_right (by decide) hi))
/-- the values behind k rows -/
def compK (p : Nat → Nat) (rows : List Rw) (V0 k : Nat) : Nat := (rows.take k).foldl (compF p V0) V0
theorem compK_zero (p : Nat → Nat) (rows : List Rw) (V0 : Nat) : compK p rows V0 0 = V0 := by simp [compK]
theorem compK_end (p : Nat → Nat) (rows : List Rw) (V0 : Nat) : compK p rows V0 rows.length = comp p rows V0 := by simp [compK, comp]
theorem compK_next {p : Nat → Nat} {rows : List Rw} {V0 k : Nat} {e : Rw} (h : rows[k]? = some e) : compK p rows V0 (k + 1) = if dot e.m V0.testBit != e.r then compK p rows V0 k ||| 2 ^ p e.m else compK p rows V0 k := by
  rw [compK, rtake_next h, List.foldl_append, List.foldl_cons, List.foldl_nil, compF]; rfl
theorem compK_lt {p : Nat → Nat} {rows : List Rw} {V0 : Nat} (h : ∀ e ∈ rows, p e.m < 64) (hV : V0 < 18446744073709551616) (k : Nat) : compK p rows V0 k < 18446744073709551616 := by
  have : ∀ (l : List Rw) (V : Nat), (∀ e ∈ l, p e.m < 64) → V < 2 ^ 64 → l.foldl (compF p V0) V < 2 ^ 64 := by
    intro l
    induction l with
    | nil => intro V _ h; exact h
    | cons e l ih =>
      intro V hl hv
      rw [List.foldl_cons]
      refine ih _ (fun a ha => hl a (by simp [ha])) ?_
      unfold compF; split
      · exact Nat.or_lt_two_pow hv (Nat.pow_lt_pow_right (by omega) (hl e (by simp)))
      · exact hv
  exact this _ V0 (fun e he => h e (List.mem_of_mem_take he)) hV
theorem dotN_and (n a b : Nat) : dotN n (a &&& b) (fun _ => true) = dotN n a b.testBit := by
  induction n with
  | zero => rfl
  | succ n ih => rw [dotN, dotN, ih, Nat.testBit_and, Bool.and_true]
/-- the parity that the program looks at -/
theorem comp_par {p : Nat → Nat} {rows : List Rw} (h : Red p rows) {V0 : Nat} (hV : ∀ k, isP p rows k = true → V0.testBit k = false) {k : Nat} {e : Rw} (he : rows[k]? = some e) : par 64 ((e.m ^^^ 2 ^ p e.m) &&& compK p rows V0 k) = dot e.m V0.testBit := by
  have hm := List.mem_of_getElem? he
  have hpl := h.plt hm
  have hsub : ∀ j, isP p rows j = false → isP p (rows.take k) j = false := fun j hj => by
    rw [Bool.eq_false_iff] at hj ⊢
    intro hc
    obtain ⟨a, ha, ea⟩ := isP_iff.1 hc
    exact hj (isP_iff.2 ⟨a, List.mem_of_mem_take ha, ea⟩)
  have hown : isP p (rows.take k) (p e.m) = false := by
    rw [Bool.eq_false_iff]
    intro hc
    obtain ⟨a, ha, ea⟩ := isP_iff.1 hc
    have hsep := h.sep
    rw [← List.take_append_drop k rows] at hsep
    have hd : e ∈ rows.drop k := by
      obtain ⟨hk, rfl⟩ := List.getElem?_eq_some_iff.1 he
      rw [List.drop_eq_getElem_cons hk]; exact List.mem_cons_self
    have := ((List.pairwise_append.1 hsep).2.2 a ha e hd).1
    rw [ea, h.on e hm] at this; cases this
  have h0 := hV (p e.m) (isP_iff.2 ⟨e, hm, rfl⟩)
  have hVp : (compK p rows V0 k).testBit (p e.m) = false := by rw [compK, comp_far _ _ _ hown, h0]
  unfold par
  rw [dotN_and]
  show dot _ _ = _
  rw [dot_xor, dot_pow hpl, hVp, Bool.xor_false]
  refine dot_congr fun j _ hb => ?_
  by_cases ej : j = p e.m
  · rw [ej, hVp, h0]
  · rw [compK, comp_far _ _ _ (hsub j (h.only hm hb ej))]
theorem fillK_yes {l unk : List Nat} {x : Nat → Bool} {k b : Nat} (hb : unk[k]? = some b) (h : x k = true) : fillK l unk x (k + 1) = flipN (fillK l unk x k) b := by
  rw [fillK, if_pos h, List.getD_eq_getElem?_getD, hb]; rfl
theorem fillK_no {l unk : List Nat} {x : Nat → Bool} {k : Nat} (h : x k = false) : fillK l unk x (k + 1) = fillK l unk x k := by
  rw [fillK, if_neg (by rw [h]; decide)]
/-- a bit not filled yet is 0 -/
theorem fillK_clear {l unk : List Nat} {x : Nat → Bool} (hn : unk.Nodup) (hu : ∀ b ∈ unk, b < 8 * l.length) {k b : Nat} (hb : unk[k]? = some b) : bitAt (fillK (clrN l unk) unk x k) b = false := by
  obtain ⟨hk, rfl⟩ := List.getElem?_eq_some_iff.1 hb
  have hm := List.getElem_mem hk
  have hg : unk.getD k 0 = unk[k] := by rw [List.getD_eq_getElem?_getD, List.getElem?_eq_getElem hk]; rfl
  rw [fillK_off (by rw [clrN_len]; exact hu) (by omega) (fun j hj e => by rw [← hg] at e; have := nd_getD hn (by omega) hk e; omega), clrN_bit hu]
  have : unk.any (· == unk[k]) = true := List.any_eq_true.2 ⟨_, hm, by simp⟩
  rw [this]; simp
/-- how many fills are made -/
def totN (most len : Nat) : Nat := if 62 ≤ len then most else min most (2 ^ len)
end Go.Proofs.Ytklalbbacbaoiaa
