/- Equality of lists of sectors: the walk. -/
import Derived.Test.YtignjjkldmninaaSameI
namespace Go.Proofs.Ytignjjkldmninaa
set_option linter.unusedVariables false
open Go.RowKit
def secEq (x y : Sec) : Bool := (x.data.toList == y.data.toList) && (x.state == y.state)
def eqDS : List Sec → List Sec → Bool
  | x :: a, y :: b => if secEq x y = true then eqDS a b else false
  | _, _ => true
def sameS (a b : List Sec) : Bool := if a.length = b.length then eqDS a b else false
theorem es_no {a b : List Sec} {k : Nat} {x y : Sec} {X : Bool} (ha : a[k]? = some x) (hb : b[k]? = some y) (H : Hid (X = eqDS (a.drop k) (b.drop k))) (h : secEq x y = false) : X = false := by
  obtain ⟨hk, rfl⟩ := List.getElem?_eq_some_iff.1 ha
  obtain ⟨hj, rfl⟩ := List.getElem?_eq_some_iff.1 hb
  rw [H.out, List.drop_eq_getElem_cons hk, List.drop_eq_getElem_cons hj, eqDS, if_neg (by rw [h]; decide)]
theorem es_yes {a b : List Sec} {k : Nat} {x y : Sec} {X : Bool} (ha : a[k]? = some x) (hb : b[k]? = some y) (H : Hid (X = eqDS (a.drop k) (b.drop k))) (h : secEq x y = true) : Hid (X = eqDS (a.drop (k + 1)) (b.drop (k + 1))) := by
  obtain ⟨hk, rfl⟩ := List.getElem?_eq_some_iff.1 ha
  obtain ⟨hj, rfl⟩ := List.getElem?_eq_some_iff.1 hb
  exact Lib.hid (by rw [H.out, List.drop_eq_getElem_cons hk, List.drop_eq_getElem_cons hj, eqDS, if_pos h])
set_option maxHeartbeats 4000000 in
theorem equalS_i (Ba Bb : Nat) (a b : List Sec) (va vb : Value) (w : World) (ha : SecOwn Ba w va a) (hb : SecOwn Bb w vb b) (hn : a.length ≤ 8388608) (hm : b.length ≤ 8388608) :
    Calls Try.prog 108 #[va, vb] w fun e w' => e = .returned (.bool (sameS a b)) ∧ Qt w w' := by
  unfold sameS
  have HA := Lib.hid (fun (g n c k : Nat) (x : Sec) (hv : va = .slice (some ⟨g, 0, none⟩) n c) (hk : a[k]? = some x) => show w.cell? ⟨g, k * 2, none⟩ = some (.string x.data) ∧ w.cell? ⟨g, k * 2 + 1, none⟩ = some (.int .i64 x.state) from by
    have hl := OwnL.shape ha
    obtain ⟨A0, c0, h0, _⟩ := hl
    rw [hv] at h0
    obtain ⟨rfl, rfl, rfl⟩ : _ = A0 ∧ n = a.length ∧ c = c0 := by simpa using h0
    rw [hv] at ha
    exact ⟨OwnL.cell Sec.len ha hk (j := 0) rfl, OwnL.cell Sec.len ha hk (j := 1) rfl⟩)
  have HB := Lib.hid (fun (g n c k : Nat) (x : Sec) (hv : vb = .slice (some ⟨g, 0, none⟩) n c) (hk : b[k]? = some x) => show w.cell? ⟨g, k * 2, none⟩ = some (.string x.data) ∧ w.cell? ⟨g, k * 2 + 1, none⟩ = some (.int .i64 x.state) from by
    have hl := OwnL.shape hb
    obtain ⟨A0, c0, h0, _⟩ := hl
    rw [hv] at h0
    obtain ⟨rfl, rfl, rfl⟩ : _ = A0 ∧ n = b.length ∧ c = c0 := by simpa using h0
    rw [hv] at hb
    exact ⟨OwnL.cell Sec.len hb hk (j := 0) rfl, OwnL.cell Sec.len hb hk (j := 1) rfl⟩)
  obtain ⟨A, c, rfl, hA⟩ := OwnL.shape ha
  obtain ⟨A', c', hv', hA'⟩ := OwnL.shape hb
  by_cases hl : a.length = b.length
  · rw [← hl] at hv'
    subst hv'
    rw [if_pos hl]
    have hi : ((a.length : Int) != (a.length : Int)) = false := by simp
    by_cases h0 : a = []
    · subst h0
      go_enter Try.func108, Try.ntmps108
      go_wp2
      refine wp_loop_once ?_
      go_wp2
      go_ret
      exact ⟨by cases b <;> rfl, Qt.refl _⟩
    · obtain ⟨g, rfl, _, hg⟩ := hA.resolve_left h0
      obtain ⟨g', rfl, _, hg'⟩ := hA'.resolve_left (by rintro rfl; exact h0 (List.eq_nil_of_length_eq_zero (by simpa using hl)))
      have HL := Lib.hid hl
      clear ha hb hA hA' hl
      go_enter Try.func108, Try.ntmps108
      go_wp2
      go_loopw [13] (fun i wr => ∃ k : Nat, k ≤ a.length ∧ i = .int .i64 k ∧ Qt w wr ∧ Hid (eqDS a b = eqDS (a.drop k) (b.drop k))) (fun i _ => a.length - (intOf i).toNat)
      case atStart => exact ⟨0, by omega, rfl, Qt.refl _, Lib.hid rfl⟩
      case round =>
        obtain ⟨k, hk, rfl, hq, HK⟩ := hrel
        by_cases hlt : k < a.length
        · obtain ⟨x, hx⟩ : ∃ x, a[k]? = some x := ⟨a[k], List.getElem?_eq_getElem hlt⟩
          obtain ⟨y, hy⟩ : ∃ y, b[k]? = some y := ⟨b[k]'(by have := HL.out; omega), List.getElem?_eq_getElem (by have := HL.out; omega)⟩
          have r0 : wr.cell? ⟨g, k * 2, none⟩ = some (.string x.data) := (hq.cell _).trans (HA.out g _ _ k x rfl hx).1
          have r1 : wr.cell? ⟨g, k * 2 + 1, none⟩ = some (.int .i64 x.state) := (hq.cell _).trans (HA.out g _ _ k x rfl hx).2
          have s0 : wr.cell? ⟨g', k * 2, none⟩ = some (.string y.data) := (hq.cell _).trans (HB.out g' _ _ k y rfl hy).1
          have s1 : wr.cell? ⟨g', k * 2 + 1, none⟩ = some (.int .i64 y.state) := (hq.cell _).trans (HB.out g' _ _ k y rfl hy).2
          have j0 : (0 : Int) ≤ (k : Int) := by omega
          have j1 : (k : Int) < (a.length : Int) := by omega
          have HX := Lib.hid hx
          have HY := Lib.hid hy
          clear hx hy
          have hse : secEq x y = ((x.data.toList == y.data.toList) && (x.state == y.state)) := rfl
          cases hc : (x.data.toList == y.data.toList)
          · have HN := Lib.hid (es_no HX.out HY.out HK (by rw [hse, hc]; rfl))
            clear hse
            go_wp2
            go_quiet (fail)
            go_wp2
            go_ret
            exact ⟨ret_bool HN.out.symm, hq.drewN _⟩
          · cases hc2 : (x.state == y.state)
            · have HN := Lib.hid (es_no HX.out HY.out HK (by rw [hse, hc, hc2]; rfl))
              clear hse
              go_wp2
              go_quiet (fail)
              go_wp2
              go_ret
              exact ⟨ret_bool HN.out.symm, hq.drewN _⟩
            · have HN := es_yes HX.out HY.out HK (by rw [hse, hc, hc2]; rfl)
              clear hse
              go_wp2
              go_quiet (fail)
              go_wp2
              go_roundw
              case rel => exact ⟨k + 1, by omega, by go_num, hq.drewN _, HN⟩
              case measure => simp [intOf]; omega
        · have HX := Lib.hid (show eqDS a b = true from by rw [HK.out, List.drop_of_length_le (by omega)]; cases b.drop k <;> rfl)
          go_wp2
          go_ret
          exact ⟨ret_bool HX.out.symm, hq⟩
  · subst hv'
    have hi : ((a.length : Int) != (b.length : Int)) = true := by simp; omega
    rw [if_neg hl]
    go_enter Try.func108, Try.ntmps108
    go_wp2
    go_ret
    exact ⟨rfl, Qt.refl _⟩
end Go.Proofs.Ytignjjkldmninaa
