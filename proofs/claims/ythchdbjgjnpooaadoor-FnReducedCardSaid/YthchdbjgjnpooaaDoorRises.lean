/- rises and ValidEquations, impl and spec: the walks. -/
import Derived.Test.YthchdbjgjnpooaaDoorHEqn3
import Derived.Test.YthchdbjgjnpooaaDoorWord
namespace Go.Proofs.YthchdbjgjnpooaaDoor
set_option linter.unusedVariables false
set_option linter.unusedSimpArgs false
open Go.RowKit
def risesF (lo hi : Int) : Option Int → List Int → Bool
  | _, [] => true
  | p, x :: r => (inB x lo hi && (match p with | none => true | some y => !decide (x ≤ y))) && risesF lo hi (some x) r
def gapB (p : Option Int) (x : Int) : Bool := match p with | none => true | some y => !decide (x ≤ y)
theorem risesF_cons (lo hi : Int) (p : Option Int) (x : Int) (r : List Int) : risesF lo hi p (x :: r) = ((inB x lo hi && gapB p x) && risesF lo hi (some x) r) := by cases p <;> rfl
def risesB (lo hi : Int) (l : List Int) : Bool := risesF lo hi none l
def lastO (l : List Int) (k : Nat) : Option Int := if k = 0 then none else l[k - 1]?
theorem ri_yes {l : List Int} {k : Nat} {x lo hi : Int} {X : Bool} (hs : l[k]? = some x) (H : Hid (X = risesF lo hi (lastO l k) (l.drop k))) (h1 : inB x lo hi = true) (h2 : ∀ y, 0 < k → l[k - 1]? = some y → ¬ x ≤ y) : Hid (X = risesF lo hi (lastO l (k + 1)) (l.drop (k + 1))) := by
  obtain ⟨hk, rfl⟩ := List.getElem?_eq_some_iff.1 hs
  refine Lib.hid ?_
  rw [H.out, List.drop_eq_getElem_cons hk, risesF_cons, h1, Bool.true_and]
  have e1 : lastO l (k + 1) = some l[k] := by unfold lastO; rw [if_neg (by omega), Nat.add_sub_cancel]; exact hs
  rw [e1]
  unfold lastO
  by_cases h0 : k = 0
  · rw [if_pos h0]; rfl
  · rw [if_neg h0]
    cases hp : l[k - 1]? with
    | none => rfl
    | some y => unfold gapB; simp only [decide_eq_false (h2 y (by omega) hp)]; rfl
theorem ri_no1 {l : List Int} {k : Nat} {x lo hi : Int} {X : Bool} (hs : l[k]? = some x) (H : Hid (X = risesF lo hi (lastO l k) (l.drop k))) (h1 : inB x lo hi = false) : X = false := by
  obtain ⟨hk, rfl⟩ := List.getElem?_eq_some_iff.1 hs
  rw [H.out, List.drop_eq_getElem_cons hk, risesF_cons, h1, Bool.false_and, Bool.false_and]
theorem ri_no2 {l : List Int} {k : Nat} {x y lo hi : Int} {X : Bool} (hs : l[k]? = some x) (H : Hid (X = risesF lo hi (lastO l k) (l.drop k))) (hk0 : 0 < k) (hy : l[k - 1]? = some y) (h2 : x ≤ y) : X = false := by
  obtain ⟨hk, rfl⟩ := List.getElem?_eq_some_iff.1 hs
  rw [H.out, List.drop_eq_getElem_cons hk, risesF_cons]
  unfold lastO
  rw [if_neg (by omega), hy]
  simp only [gapB, decide_eq_true h2, Bool.not_true, Bool.and_false, Bool.false_and]
theorem ri_end {l : List Int} {k : Nat} {lo hi : Int} {X : Bool} (hk : l.length ≤ k) (H : Hid (X = risesF lo hi (lastO l k) (l.drop k))) : X = true := by
  rw [H.out, List.drop_of_length_le hk, risesF]
/-- a slice that reads as the numbers l -/
def IntsAt (w : World) (v : Value) (l : List Int) : Prop := ∃ A c, v = .slice A l.length c ∧ (l = [] ∨ ∃ g, A = some ⟨g, 0, none⟩ ∧ g < w.heap.size ∧ ∀ k x, l[k]? = some x → w.cell? ⟨g, k, none⟩ = some (.int .i64 x))
theorem intsAt_own {B : Nat} {w : World} {v : Value} {l : List Int} (h : Int64L B w v l) : IntsAt w v l := by
  obtain ⟨A, c, rfl, hA⟩ := OwnL.shape h
  refine ⟨A, c, rfl, ?_⟩
  rcases hA with hA | ⟨g, rfl, _, hg⟩
  · exact .inl hA
  · exact .inr ⟨g, rfl, hg, fun k x hk => by
      have := OwnL.cell icell_len h hk (j := 0) rfl
      simpa using this⟩
set_option maxRecDepth 20000 in
set_option maxHeartbeats 2000000 in
theorem rises_i (l : List Int) (v : Value) (lo hi : Int) (w : World) (h : IntsAt w v l) (hm : l.length ≤ 8388608) :
    Calls Tryd.prog 28 #[v, .int .i64 lo, .int .i64 hi] w fun e w' => e = .returned (.bool (risesB lo hi l)) ∧ w = w' := by
  obtain ⟨A, c, rfl, hA⟩ := h
  by_cases hl0 : l = []
  · subst hl0
    go_enter Tryd.func28, Tryd.ntmps28
    go_wp2
    refine wp_loop_once ?_
    go_wp2
    go_ret
    exact ⟨rfl, rfl⟩
  · obtain ⟨g, rfl, hg, hc⟩ := hA.resolve_left hl0
    have HC := Lib.hid hc
    clear hA hc
    go_enter Tryd.func28, Tryd.ntmps28
    go_wp2
    go_loop [11] (fun i => ∃ k : Nat, k ≤ l.length ∧ i = .int .i64 k ∧ Hid (risesB lo hi l = risesF lo hi (lastO l k) (l.drop k))) (fun i => l.length - (intOf i).toNat)
    case atStart => exact ⟨0, by omega, rfl, Lib.hid rfl⟩
    case round =>
      obtain ⟨k, hk, rfl, HK⟩ := hrel
      by_cases hlt : k < l.length
      · obtain ⟨x, hx⟩ : ∃ x, l[k]? = some x := ⟨l[k], List.getElem?_eq_getElem hlt⟩
        have pk := HC.out k x hx
        have HX := Lib.hid hx
        clear hx
        cases h1 : inB x lo hi
        · go_wp2_with (go_at_call 27; refine (within_i _ _ _ _).mono ?_; rintro e w1 ⟨rfl, rfl⟩)
          go_ret
          exact ⟨ret_bool (ri_no1 HX.out HK h1).symm, rfl⟩
        · rcases Nat.eq_zero_or_pos k with rfl | hk0
          · have HN := ri_yes HX.out HK h1 (fun y hy => by omega)
            go_wp2_with (go_at_call 27; refine (within_i _ _ _ _).mono ?_; rintro e w1 ⟨rfl, rfl⟩)
            go_round
            case rel => exact ⟨1, by omega, by go_num, HN⟩
            case measure => simp [intOf]; omega
          · obtain ⟨y, hy⟩ : ∃ y, l[k - 1]? = some y := ⟨l[k - 1]'(by omega), List.getElem?_eq_getElem (by omega)⟩
            have py := HC.out (k - 1) y hy
            have HY := Lib.hid hy
            clear hy
            obtain ⟨j, rfl⟩ : ∃ j, k = j + 1 := ⟨k - 1, by omega⟩
            rw [Nat.add_sub_cancel] at py
            cases h2 : decide (x ≤ y)
            · have h2' := of_decide_eq_false h2
              have HN := ri_yes HX.out HK h1 (fun y' _ hy' => by rw [HY.out] at hy'; cases hy'; exact h2')
              go_wp2_with (go_at_call 27; refine (within_i _ _ _ _).mono ?_; rintro e w1 ⟨rfl, rfl⟩)
              go_round
              case rel => exact ⟨j + 1 + 1, by omega, by go_num, HN⟩
              case measure => simp [intOf]; omega
            · have h2' := of_decide_eq_true h2
              go_wp2_with (go_at_call 27; refine (within_i _ _ _ _).mono ?_; rintro e w1 ⟨rfl, rfl⟩)
              go_ret
              exact ⟨ret_bool (ri_no2 HX.out HK hk0 HY.out h2').symm, rfl⟩
      · go_wp2
        go_ret
        exact ⟨ret_bool (ri_end (by omega) HK).symm, rfl⟩
theorem rises_low {lo hi : Int} : ∀ {l : List Int} {p : Option Int}, risesF lo hi p l = true → (∀ x ∈ l, lo ≤ x ∧ x ≤ hi) ∧ l.Pairwise (· < ·) ∧ (∀ y, p = some y → ∀ x ∈ l, y < x) := by
  intro l
  induction l with
  | nil => intro p _; exact ⟨(by intro x h; cases h), List.Pairwise.nil, (by intro y _ x h; cases h)⟩
  | cons a r ih =>
    intro p h
    rw [risesF_cons, Bool.and_eq_true, Bool.and_eq_true] at h
    obtain ⟨h1, h2, h3⟩ := ih h.2
    have hb := inB_yes h.1.1
    refine ⟨fun x hx => ?_, List.pairwise_cons.2 ⟨fun x hx => h3 a rfl x hx, h2⟩, fun y hy x hx => ?_⟩
    · rcases List.mem_cons.1 hx with rfl | hx
      · exact hb
      · exact h1 x hx
    · subst hy
      have hya : y < a := by have := h.1.2; simp [gapB] at this; exact this
      rcases List.mem_cons.1 hx with rfl | hx
      · exact hya
      · have := h3 a rfl x hx; omega
end Go.Proofs.YthchdbjgjnpooaaDoor
