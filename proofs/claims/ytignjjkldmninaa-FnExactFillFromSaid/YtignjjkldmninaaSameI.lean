/- Equality of lists of numbers and of sectors, impl and spec: the walks. -/
import Derived.Test.YtignjjkldmninaaHDisc4
import Derived.Test.YtignjjkldmninaaHInt64
namespace Go.Proofs.Ytignjjkldmninaa
set_option linter.unusedVariables false
open Go.RowKit
def eqD : List Int → List Int → Bool
  | x :: a, y :: b => if (x != y) = true then false else eqD a b
  | _, _ => true
def sameI (a b : List Int) : Bool := if a.length = b.length then eqD a b else false
theorem ed_no {a b : List Int} {k : Nat} {x y : Int} {X : Bool} (ha : a[k]? = some x) (hb : b[k]? = some y) (H : Hid (X = eqD (a.drop k) (b.drop k))) (h : (x != y) = true) : X = false := by
  obtain ⟨hk, rfl⟩ := List.getElem?_eq_some_iff.1 ha
  obtain ⟨hj, rfl⟩ := List.getElem?_eq_some_iff.1 hb
  rw [H.out, List.drop_eq_getElem_cons hk, List.drop_eq_getElem_cons hj, eqD, if_pos h]
theorem ed_yes {a b : List Int} {k : Nat} {x y : Int} {X : Bool} (ha : a[k]? = some x) (hb : b[k]? = some y) (H : Hid (X = eqD (a.drop k) (b.drop k))) (h : (x != y) = false) : Hid (X = eqD (a.drop (k + 1)) (b.drop (k + 1))) := by
  obtain ⟨hk, rfl⟩ := List.getElem?_eq_some_iff.1 ha
  obtain ⟨hj, rfl⟩ := List.getElem?_eq_some_iff.1 hb
  exact Lib.hid (by rw [H.out, List.drop_eq_getElem_cons hk, List.drop_eq_getElem_cons hj, eqD, if_neg (by rw [h]; decide)])
set_option maxHeartbeats 2000000 in
theorem equal_i (Ba Bb : Nat) (a b : List Int) (va vb : Value) (w : World) (ha : Int64L Ba w va a) (hb : Int64L Bb w vb b) (hn : a.length ≤ 8388608) (hm : b.length ≤ 8388608) :
    Calls Try.prog 73 #[va, vb] w fun e w' => e = .returned (.bool (sameI a b)) ∧ Qt w w' := by
  unfold sameI
  obtain ⟨A, c, rfl, hA⟩ := OwnL.shape ha
  obtain ⟨A', c', hv', hA'⟩ := OwnL.shape hb
  by_cases hl : a.length = b.length
  · rw [← hl] at hv'
    subst hv'
    rw [if_pos hl]
    have hi : ((a.length : Int) != (a.length : Int)) = false := by simp
    by_cases h0 : a = []
    · subst h0
      go_enter Try.func73, Try.ntmps73
      go_wp2
      refine wp_loop_once ?_
      go_wp2
      go_ret
      exact ⟨by cases b <;> rfl, Qt.refl _⟩
    · obtain ⟨g, rfl, _, hg⟩ := hA.resolve_left h0
      obtain ⟨g', rfl, _, hg'⟩ := hA'.resolve_left (by rintro rfl; exact h0 (List.eq_nil_of_length_eq_zero (by simpa using hl)))
      have HA := Lib.hid (fun k x (hk : a[k]? = some x) => Int64L.at_ ha rfl hk)
      have HB := Lib.hid (fun k x (hk : b[k]? = some x) => Int64L.at_ hb hl.symm hk)
      have HL := Lib.hid hl
      clear ha hb hA hA' hl
      go_enter Try.func73, Try.ntmps73
      go_wp2
      go_loopw [13] (fun i wr => ∃ k : Nat, k ≤ a.length ∧ i = .int .i64 k ∧ Qt w wr ∧ Hid (eqD a b = eqD (a.drop k) (b.drop k))) (fun i _ => a.length - (intOf i).toNat)
      case atStart => exact ⟨0, by omega, rfl, Qt.refl _, Lib.hid rfl⟩
      case round =>
        obtain ⟨k, hk, rfl, hq, HK⟩ := hrel
        by_cases hlt : k < a.length
        · obtain ⟨x, hx⟩ : ∃ x, a[k]? = some x := ⟨a[k], List.getElem?_eq_getElem hlt⟩
          obtain ⟨y, hy⟩ : ∃ y, b[k]? = some y := ⟨b[k]'(by have := HL.out; omega), List.getElem?_eq_getElem (by have := HL.out; omega)⟩
          have r0 : wr.cell? ⟨g, k, none⟩ = some (.int .i64 x) := (hq.cell _).trans (HA.out k x hx)
          have s0 : wr.cell? ⟨g', k, none⟩ = some (.int .i64 y) := (hq.cell _).trans (HB.out k y hy)
          have j0 : (0 : Int) ≤ (k : Int) := by omega
          have j1 : (k : Int) < (a.length : Int) := by omega
          have HX := Lib.hid hx
          have HY := Lib.hid hy
          clear hx hy
          cases hc : (x != y)
          · have HN := ed_yes HX.out HY.out HK hc
            go_wp2
            go_quiet (fail)
            go_wp2
            go_roundw
            case rel => exact ⟨k + 1, by omega, by go_num, hq.drewN _, HN⟩
            case measure => simp [intOf]; omega
          · have HN := Lib.hid (ed_no HX.out HY.out HK hc)
            go_wp2
            go_quiet (fail)
            go_wp2
            go_ret
            exact ⟨ret_bool HN.out.symm, hq.drewN _⟩
        · have HX := Lib.hid (show eqD a b = true from by rw [HK.out, List.drop_of_length_le (by omega)]; cases b.drop k <;> rfl)
          go_wp2
          go_ret
          exact ⟨ret_bool HX.out.symm, hq⟩
  · subst hv'
    have hi : ((a.length : Int) != (b.length : Int)) = true := by simp; omega
    rw [if_neg hl]
    go_enter Try.func73, Try.ntmps73
    go_wp2
    go_ret
    exact ⟨rfl, Qt.refl _⟩
set_option maxHeartbeats 2000000 in
theorem same_s (Ba Bb : Nat) (a b : List Int) (va vb : Value) (w : World) (ha : Int64L Ba w va a) (hb : Int64L Bb w vb b) (hn : a.length ≤ 8388608) (hm : b.length ≤ 8388608) :
    Calls Try.prog 70 #[va, vb] w fun e w' => e = .returned (.bool (sameI a b)) ∧ Qt w w' := by
  unfold sameI
  obtain ⟨A, c, rfl, hA⟩ := OwnL.shape ha
  obtain ⟨A', c', hv', hA'⟩ := OwnL.shape hb
  by_cases hl : a.length = b.length
  · rw [← hl] at hv'
    subst hv'
    rw [if_pos hl]
    have hi : ((a.length : Int) != (a.length : Int)) = false := by simp
    by_cases h0 : a = []
    · subst h0
      go_enter Try.func70, Try.ntmps70
      go_wp2
      refine wp_loop_once ?_
      go_wp2
      go_ret
      exact ⟨by cases b <;> rfl, Qt.refl _⟩
    · obtain ⟨g, rfl, _, hg⟩ := hA.resolve_left h0
      obtain ⟨g', rfl, _, hg'⟩ := hA'.resolve_left (by rintro rfl; exact h0 (List.eq_nil_of_length_eq_zero (by simpa using hl)))
      have HA := Lib.hid (fun k x (hk : a[k]? = some x) => Int64L.at_ ha rfl hk)
      have HB := Lib.hid (fun k x (hk : b[k]? = some x) => Int64L.at_ hb hl.symm hk)
      have HL := Lib.hid hl
      clear ha hb hA hA' hl
      go_enter Try.func70, Try.ntmps70
      go_wp2
      go_loopw [5] (fun i wr => ∃ k : Nat, k ≤ a.length ∧ i = .int .i64 k ∧ Qt w wr ∧ Hid (eqD a b = eqD (a.drop k) (b.drop k))) (fun i _ => a.length - (intOf i).toNat)
      case atStart => exact ⟨0, by omega, rfl, Qt.refl _, Lib.hid rfl⟩
      case round =>
        obtain ⟨k, hk, rfl, hq, HK⟩ := hrel
        by_cases hlt : k < a.length
        · obtain ⟨x, hx⟩ : ∃ x, a[k]? = some x := ⟨a[k], List.getElem?_eq_getElem hlt⟩
          obtain ⟨y, hy⟩ : ∃ y, b[k]? = some y := ⟨b[k]'(by have := HL.out; omega), List.getElem?_eq_getElem (by have := HL.out; omega)⟩
          have r0 : wr.cell? ⟨g, k, none⟩ = some (.int .i64 x) := (hq.cell _).trans (HA.out k x hx)
          have s0 : wr.cell? ⟨g', k, none⟩ = some (.int .i64 y) := (hq.cell _).trans (HB.out k y hy)
          have j0 : (0 : Int) ≤ (k : Int) := by omega
          have j1 : (k : Int) < (a.length : Int) := by omega
          have HX := Lib.hid hx
          have HY := Lib.hid hy
          clear hx hy
          cases hc : (x != y)
          · have HN := ed_yes HX.out HY.out HK hc
            go_wp2
            go_quiet (fail)
            go_wp2
            go_roundw
            case rel => exact ⟨k + 1, by omega, by go_num, hq.drewN _, HN⟩
            case measure => simp [intOf]; omega
          · have HN := Lib.hid (ed_no HX.out HY.out HK hc)
            go_wp2
            go_quiet (fail)
            go_wp2
            go_ret
            exact ⟨ret_bool HN.out.symm, hq.drewN _⟩
        · have HX := Lib.hid (show eqD a b = true from by rw [HK.out, List.drop_of_length_le (by omega)]; cases b.drop k <;> rfl)
          go_wp2
          go_ret
          exact ⟨ret_bool HX.out.symm, hq⟩
  · subst hv'
    have hi : ((a.length : Int) != (b.length : Int)) = true := by simp; omega
    rw [if_neg hl]
    go_enter Try.func70, Try.ntmps70
    go_wp2
    go_ret
    exact ⟨rfl, Qt.refl _⟩
end Go.Proofs.Ytignjjkldmninaa
