/- Filling step by step: pivots, free bits, chosen values, parity, bits set. Plain laws. bits.OnesCount64: the walk; its parity. Sums of effects: whether a number is one, by the kept base and by the equations; two neighbouring bytes are told by the check value. Plain laws. isSum: the walk. -/
import Derived.Test.YtddihmpiaemadaaGreatDoorFc08
import Derived.Test.YtddihmpiaemadaaGreatDoorFc11
import Derived.Test.YtddihmpiaemadaaGreatDoorFc10
namespace Go.Proofs.YtddihmpiaemadaaGreatDoor
set_option linter.unusedVariables false
set_option linter.unusedSimpArgs false
theorem rtake_next {α : Type} {l : List α} {k : Nat} {e : α} (h : l[k]? = some e) : l.take (k + 1) = l.take k ++ [e] := by
  obtain ⟨hk, rfl⟩ := List.getElem?_eq_some_iff.1 h
  exact List.take_succ_eq_append_getElem hk
/-- the pivots of rows, as a number -/
def pivN (p : Nat → Nat) (rows : List Rw) : Nat := rows.foldl (fun P e => P ||| 2 ^ p e.m) 0
theorem pivN_next {p : Nat → Nat} {rows : List Rw} {k : Nat} {e : Rw} (h : rows[k]? = some e) : pivN p (rows.take (k + 1)) = pivN p (rows.take k) ||| 2 ^ p e.m := by
  rw [rtake_next h, pivN, List.foldl_append]; rfl
theorem pivN_lt {p : Nat → Nat} {rows : List Rw} (h : ∀ e ∈ rows, p e.m < 64) : pivN p rows < 18446744073709551616 := by
  have : ∀ (rows : List Rw) (P : Nat), (∀ e ∈ rows, p e.m < 64) → P < 2 ^ 64 → rows.foldl (fun P e => P ||| 2 ^ p e.m) P < 2 ^ 64 := by
    intro rows
    induction rows with
    | nil => intro P _ h; exact h
    | cons e rows ih => intro P h hP; exact ih _ (fun a ha => h a (by simp [ha])) (Nat.or_lt_two_pow hP (Nat.pow_lt_pow_right (by omega) (h e (by simp))))
  exact this rows 0 h (by decide)
theorem pivN_bit (p : Nat → Nat) (rows : List Rw) (j : Nat) : (pivN p rows).testBit j = isP p rows j := by
  have : ∀ (rows : List Rw) (P : Nat), (rows.foldl (fun P e => P ||| 2 ^ p e.m) P).testBit j = (P.testBit j || isP p rows j) := by
    intro rows
    induction rows with
    | nil => intro P; simp [isP]
    | cons e rows ih =>
      intro P
      rw [List.foldl_cons, ih, Nat.testBit_or, Nat.testBit_two_pow, isP, isP, List.any_cons, Bool.or_assoc]
      congr 2
  rw [pivN, this]; simp
/-- the free bits from the top, j bits looked at -/
def freeD (p : Nat → Nat) (rows : List Rw) (u j : Nat) : List Nat := (((List.range u).drop (u - j)).filter fun k => !isP p rows k).reverse
theorem freeD_zero (p : Nat → Nat) (rows : List Rw) (u : Nat) : freeD p rows u 0 = [] := by unfold freeD; rw [Nat.sub_zero, List.drop_of_length_le (by simp)]; rfl
theorem freeD_end (p : Nat → Nat) (rows : List Rw) (u : Nat) : freeD p rows u u = (freeU p rows u).reverse := by simp [freeD, freeU]
theorem freeD_next {p : Nat → Nat} {rows : List Rw} {u j q : Nat} (h : j + 1 + q = u) : freeD p rows u (j + 1) = if isP p rows q then freeD p rows u j else freeD p rows u j ++ [q] := by
  unfold freeD
  have e1 : u - (j + 1) = q := by omega
  have e2 : u - j = q + 1 := by omega
  rw [e1, e2, List.drop_eq_getElem_cons (by simp; omega), List.getElem_range, List.filter_cons]
  cases isP p rows q <;> simp
theorem freeD_len (p : Nat → Nat) (rows : List Rw) {u j : Nat} (hj : j ≤ u) : (freeD p rows u j).length ≤ j := by
  unfold freeD
  rw [List.length_reverse]
  have := List.length_filter_le (fun k => !isP p rows k) ((List.range u).drop (u - j))
  simp at this; omega
theorem selK_yes {fr : List Nat} {n i q : Nat} (h : fr[i]? = some q) (hb : n.testBit i = true) : selK fr n (i + 1) = selK fr n i ||| 2 ^ q := by
  rw [selK, if_pos hb, List.getD_eq_getElem?_getD, h]; rfl
theorem selK_no {fr : List Nat} {n i : Nat} (hb : n.testBit i = false) : selK fr n (i + 1) = selK fr n i := by
  rw [selK, if_neg (by rw [hb]; decide)]
theorem selK_lt {fr : List Nat} {n : Nat} (h : ∀ q ∈ fr, q < 64) : ∀ {i : Nat}, i ≤ fr.length → selK fr n i < 18446744073709551616
  | 0, _ => by simp [selK]
  | i + 1, hi => by
    have h1 := selK_lt (n := n) h (i := i) (by omega)
    cases hb : n.testBit i
    · rw [selK_no hb]; exact h1
    · rw [selK_yes (List.getElem?_eq_getElem (by omega)) hb]
      show _ < 2 ^ 64
      exact Nat.or_lt_two_pow h1 (Nat.pow_lt_pow_right (by omega) (h _ (List.getElem_mem _)))
theorem bit_far {n i : Nat} (hn : n < 2 ^ 62) (hi : 62 ≤ i) : n.testBit i = false :=
  Nat.testBit_lt_two_pow (Nat.lt_of_lt_of_le hn (show 2 ^ 62 ≤ 2 ^ i from Nat.pow_le_pow_right (by decide) hi))
/-- the values behind k rows -/
def compK (p : Nat → Nat) (rows : List Rw) (V0 k : Nat) : Nat := (rows.take k).foldl (compF p V0) V0
theorem compK_zero (p : Nat → Nat) (rows : List Rw) (V0 : Nat) : compK p rows V0 0 = V0 := by simp [compK]
theorem compK_end (p : Nat → Nat) (rows : List Rw) (V0 : Nat) : compK p rows V0 rows.length = comp p rows V0 := by simp [compK, comp]
theorem compK_next {p : Nat → Nat} {rows : List Rw} {V0 k : Nat} {e : Rw} (h : rows[k]? = some e) : compK p rows V0 (k + 1) = if dot e.m V0.testBit != e.r then compK p rows V0 k ||| 2 ^ p e.m else compK p rows V0 k := by
  rw [compK, rtake_next h, List.foldl_append, List.foldl_cons, List.foldl_nil, compF]; rfl
theorem compK_lt {p : Nat → Nat} {rows : List Rw} {V0 : Nat} (h : ∀ e ∈ rows, p e.m < 64) (hV : V0 < 18446744073709551616) (k : Nat) : compK p rows V0 k < 18446744073709551616 := by
  have : ∀ (l : List Rw) (V : Nat), (∀ e ∈ l, p e.m < 64) → V < 2 ^ 64 → l.foldl (compF p V0) V < 2 ^ 64 := by
    intro l
    induction l with
    | nil => intro V _ h; exact h
    | cons e l ih =>
      intro V hl hv
      rw [List.foldl_cons]
      refine ih _ (fun a ha => hl a (by simp [ha])) ?_
      unfold compF; split
      · exact Nat.or_lt_two_pow hv (Nat.pow_lt_pow_right (by omega) (hl e (by simp)))
      · exact hv
  exact this _ V0 (fun e he => h e (List.mem_of_mem_take he)) hV
theorem dotN_and (n a b : Nat) : dotN n (a &&& b) (fun _ => true) = dotN n a b.testBit := by
  induction n with
  | zero => rfl
  | succ n ih => rw [dotN, dotN, ih, Nat.testBit_and, Bool.and_true]
/-- the parity that the program looks at -/
theorem comp_par {p : Nat → Nat} {rows : List Rw} (h : Red p rows) {V0 : Nat} (hV : ∀ k, isP p rows k = true → V0.testBit k = false) {k : Nat} {e : Rw} (he : rows[k]? = some e) : par 64 ((e.m ^^^ 2 ^ p e.m) &&& compK p rows V0 k) = dot e.m V0.testBit := by
  have hm := List.mem_of_getElem? he
  have hpl := h.plt hm
  have hsub : ∀ j, isP p rows j = false → isP p (rows.take k) j = false := fun j hj => by
    rw [Bool.eq_false_iff] at hj ⊢
    intro hc
    obtain ⟨a, ha, ea⟩ := isP_iff.1 hc
    exact hj (isP_iff.2 ⟨a, List.mem_of_mem_take ha, ea⟩)
  have hown : isP p (rows.take k) (p e.m) = false := by
    rw [Bool.eq_false_iff]
    intro hc
    obtain ⟨a, ha, ea⟩ := isP_iff.1 hc
    have hsep := h.sep
    rw [← List.take_append_drop k rows] at hsep
    have hd : e ∈ rows.drop k := by
      obtain ⟨hk, rfl⟩ := List.getElem?_eq_some_iff.1 he
      rw [List.drop_eq_getElem_cons hk]; exact List.mem_cons_self
    have := ((List.pairwise_append.1 hsep).2.2 a ha e hd).1
    rw [ea, h.on e hm] at this; cases this
  have h0 := hV (p e.m) (isP_iff.2 ⟨e, hm, rfl⟩)
  have hVp : (compK p rows V0 k).testBit (p e.m) = false := by rw [compK, comp_far _ _ _ hown, h0]
  unfold par
  rw [dotN_and]
  show dot _ _ = _
  rw [dot_xor, dot_pow hpl, hVp, Bool.xor_false]
  refine dot_congr fun j _ hb => ?_
  by_cases ej : j = p e.m
  · rw [ej, hVp, h0]
  · rw [compK, comp_far _ _ _ (hsub j (h.only hm hb ej))]
theorem fillK_yes {l unk : List Nat} {x : Nat → Bool} {k b : Nat} (hb : unk[k]? = some b) (h : x k = true) : fillK l unk x (k + 1) = flipN (fillK l unk x k) b := by
  rw [fillK, if_pos h, List.getD_eq_getElem?_getD, hb]; rfl
theorem fillK_no {l unk : List Nat} {x : Nat → Bool} {k : Nat} (h : x k = false) : fillK l unk x (k + 1) = fillK l unk x k := by
  rw [fillK, if_neg (by rw [h]; decide)]
/-- a bit not filled yet is 0 -/
theorem fillK_clear {l unk : List Nat} {x : Nat → Bool} (hn : unk.Nodup) (hu : ∀ b ∈ unk, b < 8 * l.length) {k b : Nat} (hb : unk[k]? = some b) : bitAt (fillK (clrN l unk) unk x k) b = false := by
  obtain ⟨hk, rfl⟩ := List.getElem?_eq_some_iff.1 hb
  have hm := List.getElem_mem hk
  have hg : unk.getD k 0 = unk[k] := by rw [List.getD_eq_getElem?_getD, List.getElem?_eq_getElem hk]; rfl
  rw [fillK_off (by rw [clrN_len]; exact hu) (by omega) (fun j hj e => by rw [← hg] at e; have := nd_getD hn (by omega) hk e; omega), clrN_bit hu]
  have : unk.any (· == unk[k]) = true := List.any_eq_true.2 ⟨_, hm, by simp⟩
  rw [this]; simp
/-- how many fills are made -/
def totN (most len : Nat) : Nat := if 62 ≤ len then most else min most (2 ^ len)
end Go.Proofs.YtddihmpiaemadaaGreatDoor
namespace Go.Proofs.YtddihmpiaemadaaGreatDoor
set_option linter.unusedVariables false
set_option linter.unusedSimpArgs false
open Go.RowKit
theorem byA_mul {m : Nat} {p : Nat → Prop} (hp : ∀ a, p a → m * a < 256) : ∀ n x, byA p n x → x < 256 ^ n → m * x < 256 ^ n
  | 0, x, _, h => by have : x = 0 := by simpa using h
                     subst this; simp
  | n + 1, x, h, hx => by
    have hA : x / 256 < 256 ^ n := Nat.div_lt_of_lt_mul (by rw [Nat.pow_succ] at hx; rwa [Nat.mul_comm])
    have h1 := byA_mul hp n (x / 256) h.2 hA
    have h2 := hp _ h.1
    have e : m * x = 256 * (m * (x / 256)) + m * (x % 256) := by
      conv => lhs; rw [← Nat.div_add_mod x 256]
      rw [Nat.mul_add, Nat.mul_left_comm]
    rw [e, Nat.pow_succ]; omega
theorem pop_steps (x : Nat) (hx : x < 18446744073709551616) : ∃ x1 x2 x3 a b c : Nat,
    (x / 2 &&& 6148914691236517205) + (x &&& 6148914691236517205) = x1 ∧ x1 < 18446744073709551616 ∧
    (x1 / 4 &&& 3689348814741910323) + (x1 &&& 3689348814741910323) = x2 ∧ x2 < 18446744073709551616 ∧ x2 / 16 + x2 < 18446744073709551616 ∧
    (x2 / 16 + x2) &&& 1085102592571150095 = x3 ∧ x3 + x3 / 256 = a ∧ a + a / 65536 = b ∧ b + b / 4294967296 = c ∧ x3 < 18446744073709551616 ∧ a < 18446744073709551616 ∧ b < 18446744073709551616 ∧ c < 9223372036854775808 ∧ (c % 2 == 1) = par 64 x := by
  have hx8 : x < 256 ^ 8 := hx
  have r5 : rep 0x55 8 = 6148914691236517205 := by decide
  have r3 : rep 0x33 8 = 3689348814741910323 := by decide
  have rf : rep 0x0f 8 = 1085102592571150095 := by decide
  have g1 : ∀ a, a < 256 → p1 a 0x55 < 256 := fun a h => (p1_byte ⟨0, by omega⟩ ⟨a, h⟩).2
  have g2 : ∀ a, a < 256 → p2 a 0x33 < 256 := fun a h => (p2_byte ⟨0, by omega⟩ ⟨a, h⟩).2
  have l1 : p1 x (rep 0x55 8) < 256 ^ 8 := by rw [p1_by 8 x hx8]; exact byS_lt g1 8 x
  have l2 : p2 (p1 x (rep 0x55 8)) (rep 0x33 8) < 256 ^ 8 := by rw [p2_by 8 _ l1]; exact byS_lt g2 8 _
  have l3 : 3 * p2 (p1 x (rep 0x55 8)) (rep 0x33 8) < 256 ^ 8 := by
    refine byA_mul (p := fun a => a % 16 ≤ 4 ∧ a / 16 ≤ 4) (fun a h => by omega) 8 _ ?_ l2
    rw [p1_by 8 x hx8, p2_by 8 _ (byS_lt g1 8 x), byS_comp g1]
    exact byA_S (fun a h => g2 _ (g1 a h)) (fun a h => ⟨(p12_byte ⟨a, h⟩).1, (p12_byte ⟨a, h⟩).2.1⟩) 8 x
  have hz := pop_by x hx8
  have l4 : 31 * byS popB 8 x < 256 ^ 8 := byA_mul (p := fun a => a ≤ 8) (fun a h => by omega) 8 _ (byA_S (fun a h => by have := (popB_ok a h).1; omega) (fun a h => (popB_ok a h).1) 8 x) (byS_lt (fun a h => by have := (popB_ok a h).1; omega) 8 x)
  obtain ⟨_, s2, s3, s4⟩ := pop_sum x _ _ _ _ rfl rfl rfl rfl
  rw [← hz] at l4 s2 s3 s4
  rw [r5, r3] at l3 l2
  rw [r5] at l1
  rw [r5, r3, rf] at l4 s2 s3 s4
  refine ⟨_, _, _, _, _, _, rfl, l1, rfl, l2, ?_, rfl, rfl, rfl, rfl, ?_, s2, s3, ?_, s4⟩
  · show p2 (p1 x 6148914691236517205) 3689348814741910323 / 16 + p2 (p1 x 6148914691236517205) 3689348814741910323 < _
    omega
  · show p3 (p2 (p1 x 6148914691236517205) 3689348814741910323) 1085102592571150095 < _
    omega
  · show (p3 (p2 (p1 x 6148914691236517205) 3689348814741910323) 1085102592571150095 + p3 (p2 (p1 x 6148914691236517205) 3689348814741910323) 1085102592571150095 / 256) + (p3 (p2 (p1 x 6148914691236517205) 3689348814741910323) 1085102592571150095 + p3 (p2 (p1 x 6148914691236517205) 3689348814741910323) 1085102592571150095 / 256) / 65536 + ((p3 (p2 (p1 x 6148914691236517205) 3689348814741910323) 1085102592571150095 + p3 (p2 (p1 x 6148914691236517205) 3689348814741910323) 1085102592571150095 / 256) + (p3 (p2 (p1 x 6148914691236517205) 3689348814741910323) 1085102592571150095 + p3 (p2 (p1 x 6148914691236517205) 3689348814741910323) 1085102592571150095 / 256) / 65536) / 4294967296 < _
    generalize p3 (p2 (p1 x 6148914691236517205) 3689348814741910323) 1085102592571150095 = z at *
    omega
set_option maxRecDepth 20000 in
set_option maxHeartbeats 2000000 in
theorem pop_i (x : Nat) (hx : x < 18446744073709551616) : ∃ c : Nat, c < 128 ∧ bits .and .i64 (c : Int) 1 = bi (par 64 x) ∧ ∀ w,
    Calls Tryz.prog 148 #[.int .u64 x] w fun e w' => e = .returned (.int .i64 c) ∧ w = w' := by
  obtain ⟨x1, x2, x3, a, b, c, e1, l1, e2, l2, l22, e3, e4, e5, e6, l3, l4, l5, l6, hp⟩ := pop_steps x hx
  have d1 : (x : Int) / 2 = ((x / 2 : Nat) : Int) := by omega
  have d2 : (x1 : Int) / 4 = ((x1 / 4 : Nat) : Int) := by omega
  have d3 : (x2 : Int) / 16 + (x2 : Int) = ((x2 / 16 + x2 : Nat) : Int) := by omega
  have a1 : bits .and .u64 ((x / 2 : Nat) : Int) 6148914691236517205 = ((x / 2 &&& 6148914691236517205 : Nat) : Int) := u64_and_nat _ 6148914691236517205 (by omega) (by omega)
  have a2 : bits .and .u64 (x : Int) 6148914691236517205 = ((x &&& 6148914691236517205 : Nat) : Int) := u64_and_nat _ 6148914691236517205 (by omega) (by omega)
  have a3 : bits .and .u64 ((x1 / 4 : Nat) : Int) 3689348814741910323 = ((x1 / 4 &&& 3689348814741910323 : Nat) : Int) := u64_and_nat _ 3689348814741910323 (by omega) (by omega)
  have a4 : bits .and .u64 (x1 : Int) 3689348814741910323 = ((x1 &&& 3689348814741910323 : Nat) : Int) := u64_and_nat _ 3689348814741910323 (by omega) (by omega)
  have a5 : bits .and .u64 ((x2 / 16 + x2 : Nat) : Int) 1085102592571150095 = (x3 : Int) := by rw [← e3]; exact u64_and_nat _ 1085102592571150095 (by omega) (by omega)
  have a6 : bits .and .i64 (c : Int) 127 = ((c % 128 : Nat) : Int) := by
    rw [← show c &&& 127 = c % 128 from Nat.and_two_pow_sub_one_eq_mod c 7]
    exact i64_and_nat c 127 (by omega) (by omega)
  have hx1 : ((x / 2 &&& 6148914691236517205 : Nat) : Int) + ((x &&& 6148914691236517205 : Nat) : Int) = (x1 : Int) := by omega
  have hx2 : ((x1 / 4 &&& 3689348814741910323 : Nat) : Int) + ((x1 &&& 3689348814741910323 : Nat) : Int) = (x2 : Int) := by omega
  have ha : (x3 : Int) + (x3 : Int) / 256 = (a : Int) := by omega
  have hb : (a : Int) + (a : Int) / 65536 = (b : Int) := by omega
  have hc : (b : Int) + (b : Int) / 4294967296 = (c : Int) := by omega
  generalize (x / 2 &&& 6148914691236517205) = q1 at *
  generalize (x &&& 6148914691236517205) = q2 at *
  generalize (x1 / 4 &&& 3689348814741910323) = q3 at *
  generalize (x1 &&& 3689348814741910323) = q4 at *
  clear e1 e2 e3 e4 e5 e6
  generalize x / 2 = h1 at *
  generalize x1 / 4 = h2 at *
  generalize x2 / 16 + x2 = h3 at *
  refine ⟨c % 128, by omega, ?_, fun w => ?_⟩
  · have := i64_bit (c % 128) 0 (by omega)
    rw [Int.pow_zero, Int.ediv_one] at this
    rw [this, ← hp]
    congr 1
    rw [Nat.testBit_zero, Nat.mod_mod_of_dvd _ (by decide)]
    rcases Nat.mod_two_eq_zero_or_one c with h | h <;> rw [h] <;> rfl
  go_enter Tryz.func148, Tryz.ntmps148
  go_wp2
  go_ret
  trace_state
  exact ⟨rfl, rfl⟩
end Go.Proofs.YtddihmpiaemadaaGreatDoor
namespace Go.Proofs.YtddihmpiaemadaaGreatDoor
set_option linter.unusedVariables false
set_option linter.unusedSimpArgs false

/-- x is the exclusive or of some numbers of the list -/
def Spn : List Nat → Nat → Prop
  | [], x => x = 0
  | y :: l, x => Spn l x ∨ Spn l (x ^^^ y)
theorem Spn.zero (l : List Nat) : Spn l 0 := by
  induction l with
  | nil => rfl
  | cons y l ih => exact .inl ih
theorem xcancel (a b : Nat) : a ^^^ b ^^^ b = a := by rw [Nat.xor_assoc, Nat.xor_self, Nat.xor_zero]
theorem xright (a b c : Nat) : a ^^^ b ^^^ c = a ^^^ c ^^^ b := by rw [Nat.xor_assoc, Nat.xor_comm b c, ← Nat.xor_assoc]
theorem Spn.xor {l : List Nat} {a b : Nat} (ha : Spn l a) (hb : Spn l b) : Spn l (a ^^^ b) := by
  induction l generalizing a b with
  | nil => show a ^^^ b = 0; rw [show a = 0 from ha, show b = 0 from hb]; rfl
  | cons y l ih =>
    rcases ha with ha | ha <;> rcases hb with hb | hb
    · exact .inl (ih ha hb)
    · exact .inr (by rw [Nat.xor_assoc]; exact ih ha hb)
    · exact .inr (by rw [xright]; exact ih ha hb)
    · refine .inl ?_
      have := ih ha hb
      rwa [show a ^^^ y ^^^ (b ^^^ y) = a ^^^ b by rw [← Nat.xor_assoc, xright a y b, xcancel]] at this
theorem Spn.self {l : List Nat} {y : Nat} (h : y ∈ l) : Spn l y := by
  induction l with
  | nil => cases h
  | cons z l ih =>
    rcases List.mem_cons.1 h with rfl | h
    · exact .inr (by rw [Nat.xor_self]; exact Spn.zero l)
    · exact .inl (ih h)
theorem Spn.snoc {l : List Nat} {y x : Nat} : Spn (l ++ [y]) x ↔ Spn l x ∨ Spn l (x ^^^ y) := by
  induction l generalizing x with
  | nil => exact Iff.rfl
  | cons z l ih =>
    show (Spn (l ++ [y]) x ∨ Spn (l ++ [y]) (x ^^^ z)) ↔ ((Spn l x ∨ Spn l (x ^^^ z)) ∨ (Spn l (x ^^^ y) ∨ Spn l (x ^^^ y ^^^ z)))
    rw [ih, ih, xright x z y]
    constructor
    · rintro ((h | h) | (h | h))
      · exact .inl (.inl h)
      · exact .inr (.inl h)
      · exact .inl (.inr h)
      · exact .inr (.inr h)
    · rintro ((h | h) | (h | h))
      · exact .inl (.inl h)
      · exact .inr (.inl h)
      · exact .inl (.inr h)
      · exact .inr (.inr h)
def redM (base : List Nat) (y : Nat) : Nat := base.foldl (fun y b => min y (y ^^^ b)) y
def addM (base : List Nat) (y : Nat) : List Nat := if redM base y = 0 then base else base ++ [redM base y]
def baseM (l : List Nat) : List Nat := l.foldl addM []
/-- each number's topmost bit is in no later one -/
def Tri (base : List Nat) : Prop := (∀ b ∈ base, b ≠ 0) ∧ base.Pairwise fun a b => b.testBit (top a) = false
def isSumR (x : Nat) (l : List Nat) : Bool := redM (baseM l) x == 0
end Go.Proofs.YtddihmpiaemadaaGreatDoor
namespace Go.Proofs.YtddihmpiaemadaaGreatDoor
set_option linter.unusedVariables false
set_option linter.unusedSimpArgs false
open Go.RowKit
/-- a slice, at whatever place, that reads as the numbers l -/
def ReadN (w : World) (v : Value) (l : List Nat) : Prop := ∃ A c, v = .slice A l.length c ∧ (l = [] ∨ ∃ g o, A = some ⟨g, o, none⟩ ∧ g < w.heap.size ∧ ∀ k x : Nat, l[k]? = some x → w.cell? ⟨g, o + k, none⟩ = some (.int .i64 (x : Int)))
def stepM (y b : Nat) : Nat := min y (y ^^^ b)
end Go.Proofs.YtddihmpiaemadaaGreatDoor
