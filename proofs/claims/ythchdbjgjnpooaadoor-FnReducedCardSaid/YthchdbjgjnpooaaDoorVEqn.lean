/- l00Rises and ValidEquations, impl and spec: the walks. -/
import Derived.Test.YthchdbjgjnpooaaDoorRises
namespace Go.Proofs.YthchdbjgjnpooaaDoor
set_option linter.unusedVariables false
set_option linter.unusedSimpArgs false
open Go.RowKit
set_option maxRecDepth 20000 in
set_option maxHeartbeats 2000000 in
theorem rises_s (l : List Int) (v : Value) (lo hi : Int) (w : World) (h : IntsAt w v l) (hm : l.length ≤ 8388608) :
    Calls Tryd.prog 41 #[v, .int .i64 lo, .int .i64 hi] w fun e w' => e = .returned (.bool (risesB lo hi l)) ∧ Below w.heap.size w w' := by
  obtain ⟨A, c, rfl, hA⟩ := h
  by_cases hl0 : l = []
  · subst hl0
    go_enter Tryd.func41, Tryd.ntmps41
    go_wp2
    refine wp_loop_once ?_
    go_wp2
    go_ret
    exact ⟨rfl, Below.refl _ _⟩
  · obtain ⟨g, rfl, hg, hc⟩ := hA.resolve_left hl0
    have HC := Lib.hid hc
    clear hA hc
    go_enter Tryd.func41, Tryd.ntmps41
    go_wp2
    go_loopw [7] (fun i wr => ∃ k : Nat, k ≤ l.length ∧ i = .int .i64 k ∧ Below w.heap.size w wr ∧ Hid (risesB lo hi l = risesF lo hi (lastO l k) (l.drop k))) (fun i _ => l.length - (intOf i).toNat)
    case atStart => exact ⟨0, by omega, rfl, Below.refl _ _, Lib.hid rfl⟩
    case round =>
      obtain ⟨k, hk, rfl, hb, HK⟩ := hrel
      have zr := hb.size
      by_cases hlt : k < l.length
      · obtain ⟨x, hx⟩ : ∃ x, l[k]? = some x := ⟨l[k], List.getElem?_eq_getElem hlt⟩
        have pk : ∀ y : Wb wr, y.1.cell? ⟨g, k, none⟩ = some (.int .i64 x) := fun y => Wb.cell ((hb.cell (p := ⟨g, k, none⟩) hg).trans (HC.out k x hx)) y
        have HX := Lib.hid hx
        clear hx
        cases h1 : inB x lo hi
        · go_wp2_with (fail)
          refine wp_region_wb (by kernel_rfl) (by kernel_rfl) ?_; (repeat (go_big_quiet_step ((go_at_call 40; exact Wb.same (in_s _ _ _ _))))); refine wpQuiet_nil ?_; intro w1 hw'; obtain ⟨⟨w2, hb1⟩, hw''⟩ := hw'; subst hw''
          go_wp2
          go_ret
          exact ⟨ret_bool (ri_no1 HX.out HK h1).symm, (by repeat (first | exact Below.refl _ _ | refine Below.alloc ?_ (by first | omega | (simp; done) | (simp; omega)) _ | apply Below.drew | apply below_drewN | refine Below.setCell ?_ (by first | omega | (simp; done) | (simp; omega)) _ | refine Below.trans ?_ (Below.mono (by assumption) (by first | omega | (simp; done) | (simp; omega)))))⟩
        · rcases Nat.eq_zero_or_pos k with rfl | hk0
          · have HN := ri_yes HX.out HK h1 (fun y hy => by omega)
            go_wp2_with (fail)
            refine wp_region_wb (by kernel_rfl) (by kernel_rfl) ?_; (repeat (go_big_quiet_step ((go_at_call 40; exact Wb.same (in_s _ _ _ _))))); refine wpQuiet_nil ?_; intro w1 hw'; obtain ⟨⟨w2, hb1⟩, hw''⟩ := hw'; subst hw''
            go_wp2
            go_roundw
            case rel => exact ⟨1, by omega, by go_num, (by repeat (first | exact Below.refl _ _ | refine Below.alloc ?_ (by first | omega | (simp; done) | (simp; omega)) _ | apply Below.drew | apply below_drewN | refine Below.setCell ?_ (by first | omega | (simp; done) | (simp; omega)) _ | refine Below.trans ?_ (Below.mono (by assumption) (by first | omega | (simp; done) | (simp; omega))))), HN⟩
            case measure => simp [intOf]; omega
          · obtain ⟨y, hy⟩ : ∃ y, l[k - 1]? = some y := ⟨l[k - 1]'(by omega), List.getElem?_eq_getElem (by omega)⟩
            have py : ∀ z : Wb wr, z.1.cell? ⟨g, k - 1, none⟩ = some (.int .i64 y) := fun z => Wb.cell ((hb.cell (p := ⟨g, k - 1, none⟩) hg).trans (HC.out (k - 1) y hy)) z
            have HY := Lib.hid hy
            clear hy
            obtain ⟨j, rfl⟩ : ∃ j, k = j + 1 := ⟨k - 1, by omega⟩
            rw [Nat.add_sub_cancel] at py
            cases h2 : decide (x ≤ y)
            · have h2' := of_decide_eq_false h2
              have HN := ri_yes HX.out HK h1 (fun y' _ hy' => by rw [HY.out] at hy'; cases hy'; exact h2')
              go_wp2_with (fail)
              refine wp_region_wb (by kernel_rfl) (by kernel_rfl) ?_; (repeat (go_big_quiet_step ((go_at_call 40; exact Wb.same (in_s _ _ _ _))))); refine wpQuiet_nil ?_; intro w1 hw'; obtain ⟨⟨w2, hb1⟩, hw''⟩ := hw'; subst hw''
              go_wp2
              go_roundw
              case rel => exact ⟨j + 1 + 1, by omega, by go_num, (by repeat (first | exact Below.refl _ _ | refine Below.alloc ?_ (by first | omega | (simp; done) | (simp; omega)) _ | apply Below.drew | apply below_drewN | refine Below.setCell ?_ (by first | omega | (simp; done) | (simp; omega)) _ | refine Below.trans ?_ (Below.mono (by assumption) (by first | omega | (simp; done) | (simp; omega))))), HN⟩
              case measure => simp [intOf]; omega
            · have h2' := of_decide_eq_true h2
              go_wp2_with (fail)
              refine wp_region_wb (by kernel_rfl) (by kernel_rfl) ?_; (repeat (go_big_quiet_step ((go_at_call 40; exact Wb.same (in_s _ _ _ _))))); refine wpQuiet_nil ?_; intro w1 hw'; obtain ⟨⟨w2, hb1⟩, hw''⟩ := hw'; subst hw''
              go_wp2
              go_ret
              exact ⟨ret_bool (ri_no2 HX.out HK hk0 HY.out h2').symm, (by repeat (first | exact Below.refl _ _ | refine Below.alloc ?_ (by first | omega | (simp; done) | (simp; omega)) _ | apply Below.drew | apply below_drewN | refine Below.setCell ?_ (by first | omega | (simp; done) | (simp; omega)) _ | refine Below.trans ?_ (Below.mono (by assumption) (by first | omega | (simp; done) | (simp; omega)))))⟩
      · go_wp2
        go_ret
        exact ⟨ret_bool (ri_end (by omega) HK).symm, hb⟩
def eqnOk (u : Int) (e : Eqn) : Bool := risesB 0 (u - 1) e.bits && inB e.right 0 1
def validE (l : List Eqn) (u : Int) : Bool := (inB u 0 64 && decide (l.length ≤ 64)) && l.all (eqnOk u)
theorem ve_yes {l : List Eqn} {k : Nat} {e : Eqn} {u : Int} {X : Bool} (he : l[k]? = some e) (H : Hid (X = (l.drop k).all (eqnOk u))) (h : eqnOk u e = true) : Hid (X = (l.drop (k + 1)).all (eqnOk u)) := by
  obtain ⟨hk, rfl⟩ := List.getElem?_eq_some_iff.1 he
  exact Lib.hid (by rw [H.out, List.drop_eq_getElem_cons hk, List.all_cons, h, Bool.true_and])
theorem ve_no {l : List Eqn} {k : Nat} {e : Eqn} {u : Int} {X : Bool} (he : l[k]? = some e) (H : Hid (X = (l.drop k).all (eqnOk u))) (h : eqnOk u e = false) : X = false := by
  obtain ⟨hk, rfl⟩ := List.getElem?_eq_some_iff.1 he
  rw [H.out, List.drop_eq_getElem_cons hk, List.all_cons, h, Bool.false_and]
theorem ve_end {l : List Eqn} {k : Nat} {u : Int} {X : Bool} (hk : l.length ≤ k) (H : Hid (X = (l.drop k).all (eqnOk u))) : X = true := by
  rw [H.out, List.drop_of_length_le hk]; rfl
set_option maxRecDepth 20000 in
set_option maxHeartbeats 4000000 in
theorem validE_i (B : Nat) (l : List Eqn) (v : Value) (u : Int) (w : World) (h : EqOwn B w v l) (hm : l.length ≤ 1048576) (hbl : ∀ e ∈ l, e.bits.length ≤ 1048576) (hu : -9223372036854775808 ≤ u ∧ u ≤ 9223372036854775807) :
    Calls Tryd.prog 10 #[v, .int .i64 u] w fun e w' => e = .returned (.bool (validE l u)) ∧ Below w.heap.size w w' := by
  obtain ⟨A, c, rfl, hA⟩ := h
  cases hu1 : inB u 0 64
  · have HF : Hid (validE l u = false) := Lib.hid (by unfold validE; rw [hu1]; rfl)
    clear hA
    go_enter Tryd.func10, Tryd.ntmps10
    go_wp2_with (go_at_call 27; refine (within_i _ _ _ _).mono ?_; rintro e w1 ⟨rfl, rfl⟩)
    go_ret
    exact ⟨ret_bool HF.out.symm, Below.refl _ _⟩
  · have hu2 := inB_yes hu1
    by_cases hl64 : 64 < l.length
    · have HF : Hid (validE l u = false) := Lib.hid (by unfold validE; rw [decide_eq_false (by omega), Bool.and_false, Bool.false_and])
      have d1 : decide ((64 : Int) < (l.length : Int)) = true := by simp; omega
      clear hA
      go_enter Tryd.func10, Tryd.ntmps10
      go_wp2_with (go_at_call 27; refine (within_i _ _ _ _).mono ?_; rintro e w1 ⟨rfl, rfl⟩)
      go_ret
      exact ⟨ret_bool HF.out.symm, Below.refl _ _⟩
    · have HF : Hid (validE l u = l.all (eqnOk u)) := Lib.hid (by unfold validE; rw [hu1, decide_eq_true (by omega)]; rfl)
      have d1 : decide ((64 : Int) < (l.length : Int)) = false := by simp; omega
      by_cases hl0 : l = []
      · subst hl0
        clear hA
        go_enter Tryd.func10, Tryd.ntmps10
        go_wp2_with (go_at_call 27; refine (within_i _ _ _ _).mono ?_; rintro e w1 ⟨rfl, rfl⟩)
        refine wp_loop_once ?_
        go_wp2
        go_ret
        exact ⟨ret_bool HF.out.symm, Below.refl _ _⟩
      · obtain ⟨g, rfl, _, hg, hc⟩ := hA.resolve_left hl0
        have HC := Lib.hid hc
        clear hA hc
        go_enter Tryd.func10, Tryd.ntmps10
        go_wp2_with (go_at_call 27; refine (within_i _ _ _ _).mono ?_; rintro e w1 ⟨rfl, rfl⟩)
        go_loopw [17] (fun i wr => ∃ k : Nat, k ≤ l.length ∧ i = .int .i64 k ∧ Below w.heap.size w wr ∧ Hid (validE l u = (l.drop k).all (eqnOk u))) (fun i _ => l.length - (intOf i).toNat)
        case atStart => exact ⟨0, by omega, rfl, Below.refl _ _, HF⟩
        case round =>
          obtain ⟨k, hk, rfl, hb, HK⟩ := hrel
          have zr := hb.size
          by_cases hlt : k < l.length
          · obtain ⟨e, he⟩ : ∃ e, l[k]? = some e := ⟨l[k], List.getElem?_eq_getElem hlt⟩
            obtain ⟨bv, c1, c2, c3⟩ := HC.out k e he
            have p0 := (hb.cell (p := ⟨g, _, none⟩) hg).trans c1
            have p1 := (hb.cell (p := ⟨g, _, none⟩) hg).trans c3
            have hr := fun W (hW : Below w.heap.size w W) => rises_i e.bits bv 0 (u - 1) W (intsAt_own (OwnL.below c2 hW)) (by have := hbl e (List.mem_of_getElem? he); omega)
            have HR := Lib.hid hr
            obtain ⟨A2, cc, rfl, _⟩ := OwnL.shape c2
            have HE := Lib.hid he
            clear c1 c2 c3 he hr
            cases h1 : risesB 0 (u - 1) e.bits
            · have HN := ve_no HE.out HK (by unfold eqnOk; rw [h1]; rfl)
              rw [h1] at HR
              go_wp2_with (first | (go_at_call 28; refine (HR.out _ (by repeat (first | exact Below.refl _ _ | refine Below.alloc ?_ (by first | omega | (simp; done) | (simp; omega)) _ | apply Below.drew | apply below_drewN | refine Below.setCell ?_ (by first | omega | (simp; done) | (simp; omega)) _ | refine Below.trans ?_ (Below.mono (by assumption) (by first | omega | (simp; done) | (simp; omega)))))).mono ?_; rintro e' w1 ⟨rfl,rfl⟩; (try (have p1' := (hb1.cell (p := ⟨g, k * 2 + 1, none⟩) (by show g < _; omega)).trans p1)); (try have z1 := hb1.size)) | (go_at_call 27; refine (within_i _ _ _ _).mono ?_; rintro e' w2 ⟨rfl, rfl⟩))
              go_ret
              exact ⟨ret_bool HN.symm, (by repeat (first | exact Below.refl _ _ | refine Below.alloc ?_ (by first | omega | (simp; done) | (simp; omega)) _ | apply Below.drew | apply below_drewN | refine Below.setCell ?_ (by first | omega | (simp; done) | (simp; omega)) _ | refine Below.trans ?_ (Below.mono (by assumption) (by first | omega | (simp; done) | (simp; omega)))))⟩
            · rw [h1] at HR
              cases h2 : inB e.right 0 1
              · have HN := ve_no HE.out HK (by unfold eqnOk; rw [h1, h2]; rfl)
                go_wp2_with (first | (go_at_call 28; refine (HR.out _ (by repeat (first | exact Below.refl _ _ | refine Below.alloc ?_ (by first | omega | (simp; done) | (simp; omega)) _ | apply Below.drew | apply below_drewN | refine Below.setCell ?_ (by first | omega | (simp; done) | (simp; omega)) _ | refine Below.trans ?_ (Below.mono (by assumption) (by first | omega | (simp; done) | (simp; omega)))))).mono ?_; rintro e' w1 ⟨rfl,rfl⟩; (try (have p1' := (hb1.cell (p := ⟨g, k * 2 + 1, none⟩) (by show g < _; omega)).trans p1)); (try have z1 := hb1.size)) | (go_at_call 27; refine (within_i _ _ _ _).mono ?_; rintro e' w2 ⟨rfl, rfl⟩))
                go_ret
                exact ⟨ret_bool HN.symm, (by repeat (first | exact Below.refl _ _ | refine Below.alloc ?_ (by first | omega | (simp; done) | (simp; omega)) _ | apply Below.drew | apply below_drewN | refine Below.setCell ?_ (by first | omega | (simp; done) | (simp; omega)) _ | refine Below.trans ?_ (Below.mono (by assumption) (by first | omega | (simp; done) | (simp; omega)))))⟩
              · have HN := ve_yes HE.out HK (by unfold eqnOk; rw [h1, h2]; rfl)
                go_wp2_with (first | (go_at_call 28; refine (HR.out _ (by repeat (first | exact Below.refl _ _ | refine Below.alloc ?_ (by first | omega | (simp; done) | (simp; omega)) _ | apply Below.drew | apply below_drewN | refine Below.setCell ?_ (by first | omega | (simp; done) | (simp; omega)) _ | refine Below.trans ?_ (Below.mono (by assumption) (by first | omega | (simp; done) | (simp; omega)))))).mono ?_; rintro e' w1 ⟨rfl,rfl⟩; (try (have p1' := (hb1.cell (p := ⟨g, k * 2 + 1, none⟩) (by show g < _; omega)).trans p1)); (try have z1 := hb1.size)) | (go_at_call 27; refine (within_i _ _ _ _).mono ?_; rintro e' w2 ⟨rfl, rfl⟩))
                go_roundw
                case rel => exact ⟨k + 1, by omega, by go_num, (by repeat (first | exact Below.refl _ _ | refine Below.alloc ?_ (by first | omega | (simp; done) | (simp; omega)) _ | apply Below.drew | apply below_drewN | refine Below.setCell ?_ (by first | omega | (simp; done) | (simp; omega)) _ | refine Below.trans ?_ (Below.mono (by assumption) (by first | omega | (simp; done) | (simp; omega))))), HN⟩
                case measure => simp [intOf]; omega
          · go_wp2
            go_ret
            exact ⟨ret_bool (ve_end (by omega) HK).symm, hb⟩
set_option maxRecDepth 20000 in
set_option maxHeartbeats 4000000 in
theorem validE_s (B : Nat) (l : List Eqn) (v : Value) (u : Int) (w : World) (h : EqOwn B w v l) (hm : l.length ≤ 1048576) (hbl : ∀ e ∈ l, e.bits.length ≤ 1048576) (hu : -9223372036854775808 ≤ u ∧ u ≤ 9223372036854775807) :
    Calls Tryd.prog 20 #[v, .int .i64 u] w fun e w' => e = .returned (.bool (validE l u)) ∧ Below w.heap.size w w' := by
  obtain ⟨A, c, rfl, hA⟩ := h
  cases hu1 : inB u 0 64
  · have HF : Hid (validE l u = false) := Lib.hid (by unfold validE; rw [hu1]; rfl)
    clear hA
    go_enter Tryd.func20, Tryd.ntmps20
    go_wp2_with (go_at_call 40; refine (in_s _ _ _ _).mono ?_; rintro e w1 ⟨rfl, rfl⟩)
    go_ret
    exact ⟨ret_bool HF.out.symm, Below.refl _ _⟩
  · have hu2 := inB_yes hu1
    by_cases hl64 : 64 < l.length
    · have HF : Hid (validE l u = false) := Lib.hid (by unfold validE; rw [decide_eq_false (by omega), Bool.and_false, Bool.false_and])
      have d1 : decide ((64 : Int) < (l.length : Int)) = true := by simp; omega
      clear hA
      go_enter Tryd.func20, Tryd.ntmps20
      go_wp2_with (go_at_call 40; refine (in_s _ _ _ _).mono ?_; rintro e w1 ⟨rfl, rfl⟩)
      go_ret
      exact ⟨ret_bool HF.out.symm, Below.refl _ _⟩
    · have HF : Hid (validE l u = l.all (eqnOk u)) := Lib.hid (by unfold validE; rw [hu1, decide_eq_true (by omega)]; rfl)
      have d1 : decide ((64 : Int) < (l.length : Int)) = false := by simp; omega
      by_cases hl0 : l = []
      · subst hl0
        clear hA
        go_enter Tryd.func20, Tryd.ntmps20
        go_wp2_with (go_at_call 40; refine (in_s _ _ _ _).mono ?_; rintro e w1 ⟨rfl, rfl⟩)
        refine wp_loop_once ?_
        go_wp2
        go_ret
        exact ⟨ret_bool HF.out.symm, Below.refl _ _⟩
      · obtain ⟨g, rfl, _, hg, hc⟩ := hA.resolve_left hl0
        have HC := Lib.hid hc
        clear hA hc
        go_enter Tryd.func20, Tryd.ntmps20
        go_wp2_with (go_at_call 40; refine (in_s _ _ _ _).mono ?_; rintro e w1 ⟨rfl, rfl⟩)
        go_loopw [5] (fun i wr => ∃ k : Nat, k ≤ l.length ∧ i = .int .i64 k ∧ Below w.heap.size w wr ∧ Hid (validE l u = (l.drop k).all (eqnOk u))) (fun i _ => l.length - (intOf i).toNat)
        case atStart => exact ⟨0, by omega, rfl, Below.refl _ _, HF⟩
        case round =>
          obtain ⟨k, hk, rfl, hb, HK⟩ := hrel
          have zr := hb.size
          by_cases hlt : k < l.length
          · obtain ⟨e, he⟩ : ∃ e, l[k]? = some e := ⟨l[k], List.getElem?_eq_getElem hlt⟩
            obtain ⟨bv, c1, c2, c3⟩ := HC.out k e he
            have p0 := (hb.cell (p := ⟨g, _, none⟩) hg).trans c1
            have p1 := (hb.cell (p := ⟨g, _, none⟩) hg).trans c3
            have hr := fun W (hW : Below w.heap.size w W) => rises_s e.bits bv 0 (u - 1) W (intsAt_own (OwnL.below c2 hW)) (by have := hbl e (List.mem_of_getElem? he); omega)
            have HR := Lib.hid hr
            obtain ⟨A2, cc, rfl, _⟩ := OwnL.shape c2
            have HE := Lib.hid he
            clear c1 c2 c3 he hr
            cases h1 : risesB 0 (u - 1) e.bits
            · have HN := ve_no HE.out HK (by unfold eqnOk; rw [h1]; rfl)
              rw [h1] at HR
              go_wp2_with (first | (go_at_call 41; refine (HR.out _ (by repeat (first | exact Below.refl _ _ | refine Below.alloc ?_ (by first | omega | (simp; done) | (simp; omega)) _ | apply Below.drew | apply below_drewN | refine Below.setCell ?_ (by first | omega | (simp; done) | (simp; omega)) _ | refine Below.trans ?_ (Below.mono (by assumption) (by first | omega | (simp; done) | (simp; omega)))))).mono ?_; rintro e' w1 ⟨rfl,hb1⟩; (try (have p1' := (hb1.cell (p := ⟨g, k * 2 + 1, none⟩) (by show g < _; omega)).trans p1)); (try have z1 := hb1.size)) | (go_at_call 40; refine (in_s _ _ _ _).mono ?_; rintro e' w2 ⟨rfl, rfl⟩))
              go_ret
              exact ⟨ret_bool HN.symm, (by repeat (first | exact Below.refl _ _ | refine Below.alloc ?_ (by first | omega | (simp; done) | (simp; omega)) _ | apply Below.drew | apply below_drewN | refine Below.setCell ?_ (by first | omega | (simp; done) | (simp; omega)) _ | refine Below.trans ?_ (Below.mono (by assumption) (by first | omega | (simp; done) | (simp; omega)))))⟩
            · rw [h1] at HR
              cases h2 : inB e.right 0 1
              · have HN := ve_no HE.out HK (by unfold eqnOk; rw [h1, h2]; rfl)
                go_wp2_with (first | (go_at_call 41; refine (HR.out _ (by repeat (first | exact Below.refl _ _ | refine Below.alloc ?_ (by first | omega | (simp; done) | (simp; omega)) _ | apply Below.drew | apply below_drewN | refine Below.setCell ?_ (by first | omega | (simp; done) | (simp; omega)) _ | refine Below.trans ?_ (Below.mono (by assumption) (by first | omega | (simp; done) | (simp; omega)))))).mono ?_; rintro e' w1 ⟨rfl,hb1⟩; (try (have p1' := (hb1.cell (p := ⟨g, k * 2 + 1, none⟩) (by show g < _; omega)).trans p1)); (try have z1 := hb1.size)) | (go_at_call 40; refine (in_s _ _ _ _).mono ?_; rintro e' w2 ⟨rfl, rfl⟩))
                go_ret
                exact ⟨ret_bool HN.symm, (by repeat (first | exact Below.refl _ _ | refine Below.alloc ?_ (by first | omega | (simp; done) | (simp; omega)) _ | apply Below.drew | apply below_drewN | refine Below.setCell ?_ (by first | omega | (simp; done) | (simp; omega)) _ | refine Below.trans ?_ (Below.mono (by assumption) (by first | omega | (simp; done) | (simp; omega)))))⟩
              · have HN := ve_yes HE.out HK (by unfold eqnOk; rw [h1, h2]; rfl)
                go_wp2_with (first | (go_at_call 41; refine (HR.out _ (by repeat (first | exact Below.refl _ _ | refine Below.alloc ?_ (by first | omega | (simp; done) | (simp; omega)) _ | apply Below.drew | apply below_drewN | refine Below.setCell ?_ (by first | omega | (simp; done) | (simp; omega)) _ | refine Below.trans ?_ (Below.mono (by assumption) (by first | omega | (simp; done) | (simp; omega)))))).mono ?_; rintro e' w1 ⟨rfl,hb1⟩; (try (have p1' := (hb1.cell (p := ⟨g, k * 2 + 1, none⟩) (by show g < _; omega)).trans p1)); (try have z1 := hb1.size)) | (go_at_call 40; refine (in_s _ _ _ _).mono ?_; rintro e' w2 ⟨rfl, rfl⟩))
                go_roundw
                case rel => exact ⟨k + 1, by omega, by go_num, (by repeat (first | exact Below.refl _ _ | refine Below.alloc ?_ (by first | omega | (simp; done) | (simp; omega)) _ | apply Below.drew | apply below_drewN | refine Below.setCell ?_ (by first | omega | (simp; done) | (simp; omega)) _ | refine Below.trans ?_ (Below.mono (by assumption) (by first | omega | (simp; done) | (simp; omega))))), HN⟩
                case measure => simp [intOf]; omega
          · go_wp2
            go_ret
            exact ⟨ret_bool (ve_end (by omega) HK).symm, hb⟩
end Go.Proofs.YthchdbjgjnpooaaDoor
