/- l00Rises: the walk. -/
import Derived.Test.YtkdadaocbfbndaaRise2
namespace Go.Proofs.Ytkdadaocbfbndaa
set_option linter.unusedVariables false
open Go.RowKit
set_option maxRecDepth 20000 in
set_option maxHeartbeats 2000000 in
theorem rises_s (l : List Int) (v : Value) (lo hi : Int) (w : World) (h : IntsAt w v l) (hm : l.length ≤ 8388608) :
    Calls Try.prog 48 #[v, .int .i64 lo, .int .i64 hi] w fun e w' => e = .returned (.bool (risesB lo hi l)) ∧ Below w.heap.size w w' := by
  obtain ⟨A, c, rfl, hA⟩ := h
  by_cases hl0 : l = []
  · subst hl0
    go_enter Try.func48, Try.ntmps48
    go_wp2
    refine wp_loop_once ?_
    go_wp2
    go_ret
    exact ⟨rfl, Below.refl _ _⟩
  · obtain ⟨g, rfl, hg, hc⟩ := hA.resolve_left hl0
    have HC := Lib.hid hc
    clear hA hc
    go_enter Try.func48, Try.ntmps48
    go_wp2
    go_loopw [7] (fun i wr => ∃ k : Nat, k ≤ l.length ∧ i = .int .i64 k ∧ Below w.heap.size w wr ∧ Hid (risesB lo hi l = risesF lo hi (lastO l k) (l.drop k))) (fun i _ => l.length - (intOf i).toNat)
    case atStart => exact ⟨0, by omega, rfl, Below.refl _ _, Lib.hid rfl⟩
    case round =>
      obtain ⟨k, hk, rfl, hb, HK⟩ := hrel
      have zr := hb.size
      by_cases hlt : k < l.length
      · obtain ⟨x, hx⟩ : ∃ x, l[k]? = some x := ⟨l[k], List.getElem?_eq_getElem hlt⟩
        have pk : ∀ y : Wb wr, y.1.cell? ⟨g, k, none⟩ = some (.int .i64 x) := fun y => Wb.cell ((hb.cell (p := ⟨g, k, none⟩) hg).trans (HC.out k x hx)) y
        have HX := Lib.hid hx
        clear hx
        cases h1 : inB x lo hi
        · go_wp2_with (fail)
          refine wp_region_wb (by kernel_rfl) (by kernel_rfl) ?_; (repeat (go_big_quiet_step ((go_at_call 36; exact Wb.same (in_s _ _ _ _))))); refine wpQuiet_nil ?_; intro w1 hw'; obtain ⟨⟨w2, hb1⟩, hw''⟩ := hw'; subst hw''
          go_wp2
          go_ret
          exact ⟨ret_bool (ri_no1 HX.out HK h1).symm, (by repeat (first | exact Below.refl _ _ | refine Below.alloc ?_ (by first | omega | (simp; done) | (simp; omega)) _ | apply Below.drew | apply below_drewN | refine Below.setCell ?_ (by first | omega | (simp; done) | (simp; omega)) _ | refine Below.trans ?_ (Below.mono (by assumption) (by first | omega | (simp; done) | (simp; omega)))))⟩
        · rcases Nat.eq_zero_or_pos k with rfl | hk0
          · have HN := ri_yes HX.out HK h1 (fun y hy => by omega)
            go_wp2_with (fail)
            refine wp_region_wb (by kernel_rfl) (by kernel_rfl) ?_; (repeat (go_big_quiet_step ((go_at_call 36; exact Wb.same (in_s _ _ _ _))))); refine wpQuiet_nil ?_; intro w1 hw'; obtain ⟨⟨w2, hb1⟩, hw''⟩ := hw'; subst hw''
            go_wp2
            go_roundw
            case rel => exact ⟨1, by omega, by go_num, (by repeat (first | exact Below.refl _ _ | refine Below.alloc ?_ (by first | omega | (simp; done) | (simp; omega)) _ | apply Below.drew | apply below_drewN | refine Below.setCell ?_ (by first | omega | (simp; done) | (simp; omega)) _ | refine Below.trans ?_ (Below.mono (by assumption) (by first | omega | (simp; done) | (simp; omega))))), HN⟩
            case measure => simp [intOf]; omega
          · obtain ⟨y, hy⟩ : ∃ y, l[k - 1]? = some y := ⟨l[k - 1]'(by omega), List.getElem?_eq_getElem (by omega)⟩
            have py : ∀ z : Wb wr, z.1.cell? ⟨g, k - 1, none⟩ = some (.int .i64 y) := fun z => Wb.cell ((hb.cell (p := ⟨g, k - 1, none⟩) hg).trans (HC.out (k - 1) y hy)) z
            have HY := Lib.hid hy
            clear hy
            obtain ⟨j, rfl⟩ : ∃ j, k = j + 1 := ⟨k - 1, by omega⟩
            rw [Nat.add_sub_cancel] at py
            cases h2 : decide (x ≤ y)
            · have h2' := of_decide_eq_false h2
              have HN := ri_yes HX.out HK h1 (fun y' _ hy' => by rw [HY.out] at hy'; cases hy'; exact h2')
              go_wp2_with (fail)
              refine wp_region_wb (by kernel_rfl) (by kernel_rfl) ?_; (repeat (go_big_quiet_step ((go_at_call 36; exact Wb.same (in_s _ _ _ _))))); refine wpQuiet_nil ?_; intro w1 hw'; obtain ⟨⟨w2, hb1⟩, hw''⟩ := hw'; subst hw''
              go_wp2
              go_roundw
              case rel => exact ⟨j + 1 + 1, by omega, by go_num, (by repeat (first | exact Below.refl _ _ | refine Below.alloc ?_ (by first | omega | (simp; done) | (simp; omega)) _ | apply Below.drew | apply below_drewN | refine Below.setCell ?_ (by first | omega | (simp; done) | (simp; omega)) _ | refine Below.trans ?_ (Below.mono (by assumption) (by first | omega | (simp; done) | (simp; omega))))), HN⟩
              case measure => simp [intOf]; omega
            · have h2' := of_decide_eq_true h2
              go_wp2_with (fail)
              refine wp_region_wb (by kernel_rfl) (by kernel_rfl) ?_; (repeat (go_big_quiet_step ((go_at_call 36; exact Wb.same (in_s _ _ _ _))))); refine wpQuiet_nil ?_; intro w1 hw'; obtain ⟨⟨w2, hb1⟩, hw''⟩ := hw'; subst hw''
              go_wp2
              go_ret
              exact ⟨ret_bool (ri_no2 HX.out HK hk0 HY.out h2').symm, (by repeat (first | exact Below.refl _ _ | refine Below.alloc ?_ (by first | omega | (simp; done) | (simp; omega)) _ | apply Below.drew | apply below_drewN | refine Below.setCell ?_ (by first | omega | (simp; done) | (simp; omega)) _ | refine Below.trans ?_ (Below.mono (by assumption) (by first | omega | (simp; done) | (simp; omega)))))⟩
      · go_wp2
        go_ret
        exact ⟨ret_bool (ri_end (by omega) HK).symm, hb⟩
end Go.Proofs.Ytkdadaocbfbndaa
