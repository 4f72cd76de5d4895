/- The laws' own helpers over equations: sizes, copies, comparison. -/
import Derived.Test.YthchdbjgjnpooaaDoorHInt64
namespace Go.Proofs.YthchdbjgjnpooaaDoor
set_option linter.unusedVariables false
set_option linter.unusedSimpArgs false
open Go.RowKit

structure Eqn where
  bits : List Int
  right : Int
/-- equations that came in -/
def EqIn (w : World) (v : Value) (l : List Eqn) : Prop := ∃ A c, v = .slice A l.length c ∧ l.length ≤ maxLen ∧ (l = [] ∨ ∃ b o, A = some ⟨b, o, none⟩ ∧ b < w.heap.size ∧ ∀ (k : Nat) (e : Eqn), l[k]? = some e → ∃ bv, w.cell? ⟨b, o + k * 2, none⟩ = some bv ∧ RawL icell 1 w bv e.bits ∧ w.cell? ⟨b, o + k * 2 + 1, none⟩ = some (.int .i64 e.right))
theorem EqIn.below {w w' : World} {v : Value} {l : List Eqn} (h : EqIn w v l) (hb : Below w.heap.size w w') : EqIn w' v l := by
  obtain ⟨A, c, rfl, hm, h⟩ := h
  refine ⟨A, c, rfl, hm, ?_⟩
  rcases h with h | ⟨b, o, rfl, hlt, hc⟩
  · exact .inl h
  · exact .inr ⟨b, o, rfl, Nat.lt_of_lt_of_le hlt hb.size, fun k e hk => by
      obtain ⟨bv, h1, h2, h3⟩ := hc k e hk
      exact ⟨bv, (hb.cell (p := ⟨b, _, none⟩) hlt).trans h1, h2.below hb, (hb.cell (p := ⟨b, _, none⟩) hlt).trans h3⟩⟩
/-- equations that the call has made -/
def EqOwn (B : Nat) (w : World) (v : Value) (l : List Eqn) : Prop := ∃ A c, v = .slice A l.length c ∧ (l = [] ∨ ∃ g, A = some ⟨g, 0, none⟩ ∧ B ≤ g ∧ g < w.heap.size ∧ ∀ (k : Nat) (e : Eqn), l[k]? = some e → ∃ bv, w.cell? ⟨g, k * 2, none⟩ = some bv ∧ Int64L B w bv e.bits ∧ w.cell? ⟨g, k * 2 + 1, none⟩ = some (.int .i64 e.right))
theorem EqOwn.below {B : Nat} {w w' : World} {v : Value} {l : List Eqn} (h : EqOwn B w v l) (hb : Below w.heap.size w w') : EqOwn B w' v l := by
  obtain ⟨A, c, rfl, h⟩ := h
  refine ⟨A, c, rfl, ?_⟩
  rcases h with h | ⟨g, rfl, hB, hlt, hc⟩
  · exact .inl h
  · exact .inr ⟨g, rfl, hB, Nat.lt_of_lt_of_le hlt hb.size, fun k e hk => by
      obtain ⟨bv, h1, h2, h3⟩ := hc k e hk
      exact ⟨bv, (hb.cell (p := ⟨g, _, none⟩) hlt).trans h1, OwnL.below h2 hb, (hb.cell (p := ⟨g, _, none⟩) hlt).trans h3⟩⟩
def Eqn.wts (l : List Eqn) : Nat := (l.map fun e => e.bits.length).foldr (· + ·) 0
theorem Eqn.wts_drop {l : List Eqn} {k : Nat} {e : Eqn} (he : l[k]? = some e) : Eqn.wts (l.drop k) = e.bits.length + Eqn.wts (l.drop (k + 1)) := by
  obtain ⟨h, rfl⟩ := List.getElem?_eq_some_iff.1 he
  rw [List.drop_eq_getElem_cons h]; rfl
theorem Eqn.wts_le {l : List Eqn} {e : Eqn} (he : e ∈ l) : e.bits.length ≤ Eqn.wts l := by
  induction l with
  | nil => cases he
  | cons a l ih =>
    show _ ≤ a.bits.length + Eqn.wts l
    cases List.mem_cons.1 he with
    | inl h => subst h; exact Nat.le_add_right _ _
    | inr h => exact Nat.le_trans (ih h) (Nat.le_add_left _ _)
theorem szR_step_no {left : Int} {n m k : Nat} {x : Int} (H : Hid (szR left n = szR x m)) (hk : k ≤ m) (hx : szR x k < 0) : szR left n = -1 := by
  have := szR_neg.1 hx
  rw [H.out, szR_no (by omega)]
theorem szR_step_yes {left : Int} {n m m' k : Nat} {x : Int} (H : Hid (szR left n = szR x m)) (hk : m = k + m') (hx : 0 ≤ szR x k) : Hid (szR left n = szR (szR x k) m') := by
  have := szR_pos.1 hx
  refine Lib.hid ?_
  rw [H.out, szR_yes this, hk]
  unfold szR
  split <;> split <;> omega
theorem szR_le {x : Int} {k : Nat} (h : x ≤ 1048576) : szR x k ≤ 1048576 := by unfold szR; split <;> omega
set_option maxHeartbeats 1000000 in
theorem szEqn (bv : Value) (bits : List Int) (r x0 : Int) (w : World) (hr : RawL icell 1 w bv bits) (hx : 0 ≤ x0 ∧ x0 ≤ 1048576) :
    Calls Tryd.prog 29 #[.agg #[bv, .int .i64 r], .int .i64 x0] w fun e w' => e = .returned (.int .i64 (szR x0 bits.length)) ∧ Below w.heap.size w w' := by
  have hs := szInt64S bits bv x0 (w.alloc (.cells #[bv, .int .i64 r] 58)) (hr.below (Below.alloc (Below.refl _ _) (Nat.le_refl _) _)) hx
  have hne : szR x0 bits.length < 0 → szR x0 bits.length = -1 := fun h => szR_no (szR_neg.1 h)
  obtain ⟨A, c, rfl, _, _⟩ := hr
  generalize szR x0 bits.length = y at *
  go_enter Tryd.func29, Tryd.ntmps29
  go_wp2_with (go_at_call 44; refine hs.mono ?_; rintro e w1 ⟨rfl, rfl⟩)
  · go_ret
    exact ⟨ret_int (hne (by assumption)).symm, (by repeat (first | exact Below.refl _ _ | refine Below.alloc ?_ (by first | omega | (simp; done) | (simp; omega)) _ | apply Below.drew | apply below_drewN | refine Below.setCell ?_ (by first | omega | (simp; done) | (simp; omega)) _ | refine Below.trans ?_ (Below.mono (by assumption) (by first | omega | (simp; done) | (simp; omega)))))⟩
  · go_ret
    exact ⟨rfl, (by repeat (first | exact Below.refl _ _ | refine Below.alloc ?_ (by first | omega | (simp; done) | (simp; omega)) _ | apply Below.drew | apply below_drewN | refine Below.setCell ?_ (by first | omega | (simp; done) | (simp; omega)) _ | refine Below.trans ?_ (Below.mono (by assumption) (by first | omega | (simp; done) | (simp; omega)))))⟩
set_option maxHeartbeats 2000000 in
theorem szEqnS (l : List Eqn) (v : Value) (x0 : Int) (w : World) (hr : EqIn w v l) (hx : 0 ≤ x0 ∧ x0 ≤ 1048576) :
    Calls Tryd.prog 12 #[v, .int .i64 x0] w fun e w' => e = .returned (.int .i64 (szR x0 (l.length + Eqn.wts l))) ∧ Below w.heap.size w w' := by
  obtain ⟨hx0, hx1⟩ := hx
  obtain ⟨A, c, rfl, hmax, hr⟩ := hr
  unfold maxLen at hmax
  by_cases hlen : (l.length : Int) ≤ x0
  · rcases hr with rfl | ⟨b, o, rfl, hlt, hc⟩
    · have HX : Hid (szR x0 0 = x0) := Lib.hid (by rw [szR_yes (by omega)]; omega)
      go_enter Tryd.func12, Tryd.ntmps12
      go_wp2
      refine wp_loop_once ?_
      go_wp2
      go_ret
      exact ⟨ret_int HX.out.symm, (by repeat (first | exact Below.refl _ _ | refine Below.alloc ?_ (by first | omega | (simp; done) | (simp; omega)) _ | apply Below.drew | apply below_drewN | refine Below.setCell ?_ (by first | omega | (simp; done) | (simp; omega)) _ | refine Below.trans ?_ (Below.mono (by assumption) (by first | omega | (simp; done) | (simp; omega)))))⟩
    · have HC := Lib.hid hc
      clear hc
      go_enter Tryd.func12, Tryd.ntmps12
      go_wp2
      go_loopw [5, 1] (fun i left wr => ∃ (k : Nat) (x : Int), k ≤ l.length ∧ i = .int .i64 k ∧ left = .int .i64 x ∧ (0 ≤ x ∧ x ≤ 1048576) ∧ Below w.heap.size w wr ∧ Hid (szR x0 (l.length + Eqn.wts l) = szR x (Eqn.wts (l.drop k)))) (fun i _ _ => l.length - (intOf i).toNat)
      case atStart => exact ⟨0, _, by omega, rfl, rfl, by omega, (by repeat (first | exact Below.refl _ _ | refine Below.alloc ?_ (by first | omega | (simp; done) | (simp; omega)) _ | apply Below.drew | apply below_drewN | refine Below.setCell ?_ (by first | omega | (simp; done) | (simp; omega)) _ | refine Below.trans ?_ (Below.mono (by assumption) (by first | omega | (simp; done) | (simp; omega))))), Lib.hid (by simp only [List.drop_zero]; unfold szR; split <;> split <;> omega)⟩
      case round =>
        obtain ⟨k, x, hk, rfl, rfl, hxx, hb, HK⟩ := hrel
        by_cases hltk : k < l.length
        · obtain ⟨e, he⟩ : ∃ e, l[k]? = some e := ⟨l[k]'(by omega), List.getElem?_eq_getElem (by omega)⟩
          have HW := Lib.hid (Eqn.wts_drop he)
          obtain ⟨bv, h1, h2, h3⟩ := HC.out k e he
          have p0 := (hb.cell (p := ⟨b, _, none⟩) hlt).trans h1
          have p1 := (hb.cell (p := ⟨b, _, none⟩) hlt).trans h3
          have hz : w.heap.size ≤ wr.heap.size := hb.size
          have hs := szEqn bv e.bits e.right x wr (h2.below hb) hxx
          obtain ⟨A2, c2, rfl, _, _⟩ := h2
          clear h1 h3 he
          go_wp2_with (go_at_call 29; refine hs.mono ?_; rintro e' w1 ⟨rfl, hb1⟩)
          · have hneg : szR x e.bits.length < 0 := by assumption
            go_ret
            exact ⟨ret_int (szR_step_no HK (by rw [HW.out]; omega) hneg).symm, (by repeat (first | exact Below.refl _ _ | refine Below.alloc ?_ (by first | omega | (simp; done) | (simp; omega)) _ | apply Below.drew | apply below_drewN | refine Below.setCell ?_ (by first | omega | (simp; done) | (simp; omega)) _ | refine Below.trans ?_ (Below.mono (by assumption) (by first | omega | (simp; done) | (simp; omega)))))⟩
          · have hpos : 0 ≤ szR x e.bits.length := by assumption
            go_roundw
            case rel => exact ⟨k + 1, _, by omega, by go_num, rfl, ⟨hpos, szR_le hxx.2⟩, (by repeat (first | exact Below.refl _ _ | refine Below.alloc ?_ (by first | omega | (simp; done) | (simp; omega)) _ | apply Below.drew | apply below_drewN | refine Below.setCell ?_ (by first | omega | (simp; done) | (simp; omega)) _ | refine Below.trans ?_ (Below.mono (by assumption) (by first | omega | (simp; done) | (simp; omega))))), szR_step_yes HK HW.out hpos⟩
            case measure => simp [intOf]; omega
        · have hxp : szR x (Eqn.wts (l.drop k)) = x := by rw [List.drop_of_length_le (by omega)]; exact (szR_yes (by show ((0 : Nat) : Int) ≤ x; omega)).trans (by show x - ((0 : Nat) : Int) = x; omega)
          have HX := Lib.hid hxp
          clear hxp
          go_wp2
          go_ret
          exact ⟨ret_int (by rw [HK.out, HX.out]), (by repeat (first | exact Below.refl _ _ | refine Below.alloc ?_ (by first | omega | (simp; done) | (simp; omega)) _ | apply Below.drew | apply below_drewN | refine Below.setCell ?_ (by first | omega | (simp; done) | (simp; omega)) _ | refine Below.trans ?_ (Below.mono (by assumption) (by first | omega | (simp; done) | (simp; omega)))))⟩
  · go_enter Tryd.func12, Tryd.ntmps12
    go_wp2
    go_ret
    exact ⟨ret_int (by rw [szR_no (by omega)]), (by repeat (first | exact Below.refl _ _ | refine Below.alloc ?_ (by first | omega | (simp; done) | (simp; omega)) _ | apply Below.drew | apply below_drewN | refine Below.setCell ?_ (by first | omega | (simp; done) | (simp; omega)) _ | refine Below.trans ?_ (Below.mono (by assumption) (by first | omega | (simp; done) | (simp; omega)))))⟩
end Go.Proofs.YthchdbjgjnpooaaDoor
