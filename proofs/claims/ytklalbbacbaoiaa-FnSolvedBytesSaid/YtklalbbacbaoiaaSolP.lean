/- SolveBytes: the plain law. -/
import Derived.Test.YtklalbbacbaoiaaFilI
namespace Go.Proofs.Ytklalbbacbaoiaa
set_option linter.unusedVariables false
open Go.RowKit
theorem rises_of {lo hi : Int} : ∀ {l : List Int} {p : Option Int}, (∀ x ∈ l, lo ≤ x ∧ x ≤ hi) → l.Pairwise (· < ·) → (∀ y, p = some y → ∀ x ∈ l, y < x) → risesF lo hi p l = true := by
  intro l
  induction l with
  | nil => intro p _ _ _; unfold risesF; rfl
  | cons a r ih =>
    intro p h1 h2 h3
    have hp := List.pairwise_cons.1 h2
    rw [risesF_cons, Bool.and_eq_true, Bool.and_eq_true]
    refine ⟨⟨inB_t (h1 a (by simp)), ?_⟩, ih (fun x hx => h1 x (by simp [hx])) hp.2 fun y hy x hx => by cases hy; exact hp.1 x hx⟩
    cases p with
    | none => rfl
    | some y => have := h3 y rfl a (by simp); simp [gapB, this]
/-- the bits of places, n of them -/
def exN (pl : List Nat) (n : Nat) : List Nat := (List.range n).map fun j => 8 * pl.getD (j / 8) 0 + j % 8
theorem exN_len (pl : List Nat) (n : Nat) : (exN pl n).length = n := by simp [exN]
theorem exN_next {pl : List Nat} {k b p : Nat} (hb : b < 8) (hp : pl[k]? = some p) : exN pl (8 * k + (b + 1)) = exN pl (8 * k + b) ++ [8 * p + b] := by
  rw [show 8 * k + (b + 1) = (8 * k + b) + 1 by omega]
  unfold exN
  rw [List.range_succ, List.map_append, List.map_cons, List.map_nil, show (8 * k + b) / 8 = k by omega, show (8 * k + b) % 8 = b by omega, List.getD_eq_getElem?_getD, hp]; rfl
theorem exN_mem {pl : List Nat} {m x : Nat} (h : ∀ p ∈ pl, p < m) (hx : x ∈ exN pl (8 * pl.length)) : x < 8 * m := by
  obtain ⟨j, hj, rfl⟩ := List.mem_map.1 hx
  have hj' := List.mem_range.1 hj
  have := h (pl.getD (j / 8) 0) (getD_mem (by omega))
  omega
theorem exN_srt {pl : List Nat} (h : pl.Pairwise (· < ·)) : (exN pl (8 * pl.length)).Pairwise (· < ·) := by
  refine List.pairwise_map.2 ((List.pairwise_lt_range (n := 8 * pl.length)).imp_of_mem fun {a b} ha hb hab => ?_)
  have hb' := List.mem_range.1 hb
  have ha' := List.mem_range.1 ha
  by_cases e : a / 8 = b / 8
  · rw [e]; omega
  · have h1 : a / 8 < b / 8 := by omega
    have g1 : pl.getD (a / 8) 0 = pl[a / 8]'(by omega) := by rw [List.getD_eq_getElem?_getD, List.getElem?_eq_getElem (by omega)]; rfl
    have g2 : pl.getD (b / 8) 0 = pl[b / 8]'(by omega) := by rw [List.getD_eq_getElem?_getD, List.getElem?_eq_getElem (by omega)]; rfl
    have := List.pairwise_iff_getElem.1 h (a / 8) (b / 8) (by omega) (by omega) h1
    rw [g1, g2]; omega
def sbOk (s : ByteArray) (l : List Int) (c : Int) : Bool := (inB s.size 1 64 && inB c 0 65535) && (risesB 0 (s.size - 1) l && decide (l.length ≤ 8))
theorem places_nat {s : ByteArray} {l : List Int} (h : risesB 0 (s.size - 1) l = true) : ∃ pl : List Nat, l = intsN pl ∧ (∀ p ∈ pl, p < s.size) ∧ pl.Pairwise (· < ·) := by
  obtain ⟨b1, b2, _⟩ := rises_low h
  have e : l = (l.map Int.toNat).map (fun i : Nat => (i : Int)) := by
    rw [List.map_map]
    conv => lhs; rw [← List.map_id l]
    refine List.map_congr_left fun x hx => ?_
    have := b1 x hx
    simp only [Function.comp_apply, id_eq]; omega
  refine ⟨l.map Int.toNat, e, fun b hb => ?_, ?_⟩
  · obtain ⟨x, hx, rfl⟩ := List.mem_map.1 hb
    have := b1 x hx; omega
  · refine List.pairwise_map.2 (b2.imp_of_mem fun ha hb hab => ?_)
    have := b1 _ ha; have := b1 _ hb; omega
theorem ex_rises {s : ByteArray} {pl : List Nat} (h1 : ∀ p ∈ pl, p < s.size) (h2 : pl.Pairwise (· < ·)) : risesB 0 (8 * s.size - 1) (intsN (exN pl (8 * pl.length))) = true := by
  refine rises_of (fun x hx => ?_) ?_ (fun y hy => by cases hy)
  · obtain ⟨z, hz, rfl⟩ := List.mem_map.1 hx
    have := exN_mem h1 hz; omega
  · exact List.pairwise_map.2 ((exN_srt h2).imp fun h => by omega)
/-- what the solver answers, from the reference's solved form -/
def sbR (s : ByteArray) (U : List Nat) (X : Option (List Rw)) : ByteArray × Int := match X with
  | none => (.empty, 3)
  | some b => if b.length < U.length then (.empty, 11) else (strN (fillN (bts s) U (comp low b 0).testBit), 0)
def sbE (s : ByteArray) (l : List Int) (c : Int) : ByteArray × Int := if sbOk s l c then sbR s (exN (l.map Int.toNat) (8 * l.length)) (redS (rowsOf s (exN (l.map Int.toNat) (8 * l.length)) c.toNat)) else (.empty, 1)
def sbV (s : ByteArray) (l : List Int) (c : Int) : Value := .tuple #[.string (sbE s l c).1, .int .i64 (sbE s l c).2]
theorem sbV_no {s : ByteArray} {l : List Int} {c : Int} (h : sbOk s l c = false) : sbV s l c = .tuple #[.string .empty, .int .i64 1] := by unfold sbV sbE; rw [h]; rfl
theorem sbV_yes {s : ByteArray} {pl : List Nat} {c : Nat} (h : sbOk s (intsN pl) c = true) : sbV s (intsN pl) c = .tuple #[.string (sbR s (exN pl (8 * pl.length)) (redS (rowsOf s (exN pl (8 * pl.length)) c))).1, .int .i64 (sbR s (exN pl (8 * pl.length)) (redS (rowsOf s (exN pl (8 * pl.length)) c))).2] := by
  unfold sbV sbE; rw [if_pos h, intsN_back, Int.toNat_natCast, intsN_len]
end Go.Proofs.Ytklalbbacbaoiaa
