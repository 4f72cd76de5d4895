/- Reduced equations: what both sides compute; the rows of equations. -/
import Derived.Test.YthchdbjgjnpooaaDoorEqnS
import Derived.Test.YthchdbjgjnpooaaDoorVEqn
import Derived.Test.YthchdbjgjnpooaaDoorHEqA
import Derived.Test.YthchdbjgjnpooaaDoorLowI
namespace Go.Proofs.YthchdbjgjnpooaaDoor
set_option linter.unusedVariables false
set_option linter.unusedSimpArgs false
open Go.RowKit
def maskB (l : List Int) : Nat := l.foldl (fun a k => a ||| 2 ^ k.toNat) 0
theorem maskB_next {l : List Int} {k q : Nat} (h : l[k]? = some (q : Int)) : maskB (l.take (k + 1)) = maskB (l.take k) ||| 2 ^ q := by
  unfold maskB
  rw [take_next h, List.foldl_append]; rfl
theorem maskB_lt {l : List Int} (h : ∀ x ∈ l, 0 ≤ x ∧ x ≤ 63) : maskB l < 18446744073709551616 := by
  unfold maskB
  suffices H : ∀ a : Nat, a < 2 ^ 64 → l.foldl (fun a k => a ||| 2 ^ k.toNat) a < 2 ^ 64 from H 0 (by decide)
  induction l with
  | nil => intro a ha; exact ha
  | cons x l ih =>
    intro a ha
    have hx := h x (by simp)
    exact ih (fun y hy => h y (by simp [hy])) _ (Nat.or_lt_two_pow ha (Nat.pow_lt_pow_right (by omega) (by omega)))
def eqnRw (e : Eqn) : Rw := ⟨maskB e.bits, decide (e.right = 1)⟩
def rwK (l : List Eqn) (k : Nat) : List Rw := (l.take k).map eqnRw
theorem rwK_next {l : List Eqn} {k : Nat} {e : Eqn} (h : l[k]? = some e) : rwK l (k + 1) = rwK l k ++ [eqnRw e] := by
  unfold rwK
  rw [take_next h, List.map_append]; rfl
theorem rwK_len {l : List Eqn} {k : Nat} (h : k ≤ l.length) : (rwK l k).length = k := by simp [rwK]; omega
theorem rwK_end (l : List Eqn) : rwK l l.length = l.map eqnRw := by unfold rwK; rw [List.take_length]
theorem valid_at {l : List Eqn} {u : Int} (h : validE l u = true) : l.length ≤ 64 ∧ ∀ e ∈ l, (∀ x ∈ e.bits, 0 ≤ x ∧ x ≤ 63) ∧ e.right = bi (decide (e.right = 1)) := by
  unfold validE at h
  simp only [Bool.and_eq_true, decide_eq_true_eq] at h
  obtain ⟨⟨h1, h2⟩, h3⟩ := h
  have hu := inB_yes h1
  refine ⟨h2, fun e he => ?_⟩
  have h4 := List.all_eq_true.1 h3 e he
  unfold eqnOk at h4
  simp only [Bool.and_eq_true] at h4
  obtain ⟨h5, _⟩ := rises_low (p := none) h4.1
  have h6 := inB_yes h4.2
  refine ⟨fun x hx => by have := h5 x hx; omega, ?_⟩
  by_cases h7 : e.right = 1
  · rw [decide_eq_true h7, h7]; rfl
  · rw [decide_eq_false h7]
    show e.right = 0
    omega
theorem eqnRw_lt {l : List Eqn} (h : ∀ e ∈ l, (∀ x ∈ e.bits, 0 ≤ x ∧ x ≤ 63) ∧ e.right = bi (decide (e.right = 1))) : ∀ e ∈ l.map eqnRw, e.m < 18446744073709551616 := by
  intro e he
  obtain ⟨a, ha, rfl⟩ := List.mem_map.1 he
  exact maskB_lt (h a ha).1
def rdE (l : List Eqn) (u : Int) : List Eqn × Int := if validE l u then (match redS (l.map eqnRw) with
  | none => ([], 3)
  | some o => (o.map rowEqn, 0)) else ([], 1)
theorem rdE_no {l : List Eqn} {u : Int} (h : validE l u = false) : rdE l u = ([], 1) := by unfold rdE; rw [h]; rfl
theorem rdE_none {l : List Eqn} {u : Int} (h : validE l u = true) (hr : redS (l.map eqnRw) = none) : rdE l u = ([], 3) := by unfold rdE; rw [if_pos h, hr]
theorem rdE_some {l : List Eqn} {u : Int} {o : List Rw} (h : validE l u = true) (hr : redS (l.map eqnRw) = some o) : rdE l u = (o.map rowEqn, 0) := by unfold rdE; rw [if_pos h, hr]
theorem eqs_cnt2 (rows : List Rw) : cntE (rows.map rowEqn) ≤ 65 * rows.length := by
  induction rows with
  | nil => exact Nat.zero_le _
  | cons e l ih =>
    rw [List.map_cons, cntE_cons, List.length_cons]
    have h1 : (rowEqn e).bits.length ≤ 64 := by show (intsN (bitsK e.m 64)).length ≤ 64; rw [intsN_len]; exact bitsK_len _ _
    omega
theorem rdE_cnt (l : List Eqn) (u : Int) : REqS.cnt (rdE l u).1 ≤ 8388608 := by
  cases hv : validE l u with
  | false => rw [rdE_no hv]; show cntE [] ≤ _; simp [cntE]
  | true =>
    obtain ⟨h1, h2⟩ := valid_at hv
    cases hr : redS (l.map eqnRw) with
    | none => rw [rdE_none hv hr]; show cntE [] ≤ _; simp [cntE]
    | some o =>
      rw [rdE_some hv hr]
      have h3 := redS_ok (u := 64) (Nat.le_refl _) (eqnRw_lt h2) hr
      obtain ⟨_, _, _, _, h4⟩ := h3
      have h5 := eqs_cnt2 o
      rw [List.length_map] at h4
      show cntE (o.map rowEqn) ≤ _
      omega
end Go.Proofs.YthchdbjgjnpooaaDoor
