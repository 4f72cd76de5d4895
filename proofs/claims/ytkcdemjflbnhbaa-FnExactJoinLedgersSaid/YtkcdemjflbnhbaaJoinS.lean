/- JoinLedgers, spec. -/
import Derived.Test.YtkcdemjflbnhbaaJoin
import Derived.StillTailTactics
namespace Go.Proofs.Ytkcdemjflbnhbaa
set_option linter.unusedVariables false
open Go.RowKit

set_option maxHeartbeats 4000000 in
theorem join_s (B : Nat) (vx vy : Value) (x y : List Ent) (w : World) (hnx : x.length ≤ 1048576) (hny : y.length ≤ 1048576) (hx : EntL B w vx x) (hy : EntL B w vy y) (hvx : ∀ e ∈ x, e.verb.size ≤ 1048576) (hvy : ∀ e ∈ y, e.verb.size ≤ 1048576) :
    Calls Try.prog 31 #[vx, vy] w fun e w' => AppL w (joinE x y) e w' := by
  obtain ⟨Ax, cx, rfl, hAx⟩ := hx.shape
  obtain ⟨Ay, cy, rfl, hAy⟩ := hy.shape
  cases hokx : ledgerOk x
  · have HF := Lib.hid (joinE_no (x := x) (y := y) (by simp [hokx]))
    go_enter Try.func31, Try.ntmps31
    go_wp2_with (go_at_call 42; first | (refine (valid_s0 B _ _ w hnx hx hvx).mono ?_; rintro e w1 ⟨rfl, hb1⟩; have hz1 := hb1.size; have hx1 := hx.below hb1; have hy1 := hy.below hb1) | (refine (valid_s0 B _ _ w1 hny hy1 hvy).mono ?_; rintro e w2 ⟨rfl, hb2⟩; have hz2 := hb2.size; have hx2 := hx1.below hb2; have hy2 := hy1.below hb2))
    exact bodyPost_ret (v := .tuple #[newV w1, .int .i64 1]) (by simp [newV, results, Try.results31, go_sem]) rfl (newV_app HF.out (by repeat (first | exact Below.refl _ _ | refine Below.alloc ?_ (by first | omega | (simp; done) | (simp; omega)) _ | apply Below.drew | apply below_drewN | refine Below.setCell ?_ (by first | omega | (simp; done) | (simp; omega)) _ | refine Below.trans ?_ (Below.mono (by assumption) (by first | omega | (simp; done) | (simp; omega))))))
  cases hoky : ledgerOk y
  · have HF := Lib.hid (joinE_no (x := x) (y := y) (by simp [hoky]))
    go_enter Try.func31, Try.ntmps31
    go_wp2_with (go_at_call 42; first | (refine (valid_s0 B _ _ w hnx hx hvx).mono ?_; rintro e w1 ⟨rfl, hb1⟩; have hz1 := hb1.size; have hx1 := hx.below hb1; have hy1 := hy.below hb1) | (refine (valid_s0 B _ _ w1 hny hy1 hvy).mono ?_; rintro e w2 ⟨rfl, hb2⟩; have hz2 := hb2.size; have hx2 := hx1.below hb2; have hy2 := hy1.below hb2))
    exact bodyPost_ret (v := .tuple #[newV w2, .int .i64 1]) (by simp [newV, results, Try.results31, go_sem]) rfl (newV_app HF.out (by repeat (first | exact Below.refl _ _ | refine Below.alloc ?_ (by first | omega | (simp; done) | (simp; omega)) _ | apply Below.drew | apply below_drewN | refine Below.setCell ?_ (by first | omega | (simp; done) | (simp; omega)) _ | refine Below.trans ?_ (Below.mono (by assumption) (by first | omega | (simp; done) | (simp; omega))))))
  have hlx := ok_len hokx
  have hly := ok_len hoky
  by_cases hx0 : x = []
  · have hxd : decide ((0 : Int) < (x.length : Int)) = false := by simp [hx0]
    have hxn : decide (0 < x.length) = false := by simp [hx0]
    have HX := Lib.hid hx0
    clear hx0
    by_cases h30 : 30 < x.length + y.length
    · have HF := Lib.hid (joinE_full hokx hoky (.inl (.inl HX.out)) h30)
      have h30' : decide ((30 : Int) < (x.length : Int) + (y.length : Int)) = true := by simp; omega
      go_enter Try.func31, Try.ntmps31
      go_wp2_with (go_at_call 42; first | (refine (valid_s0 B _ _ w hnx hx hvx).mono ?_; rintro e w1 ⟨rfl, hb1⟩; have hz1 := hb1.size; have hx1 := hx.below hb1; have hy1 := hy.below hb1) | (refine (valid_s0 B _ _ w1 hny hy1 hvy).mono ?_; rintro e w2 ⟨rfl, hb2⟩; have hz2 := hb2.size; have hx2 := hx1.below hb2; have hy2 := hy1.below hb2))
      refine wp_region_wb (by kernel_rfl) (by kernel_rfl) ?_
      repeat (go_big_quiet_step (fail))
      refine wpQuiet_nil ?_; intro w4 hw'; obtain ⟨⟨wq, hb4⟩, hw''⟩ := hw'; subst hw''; have hz4 := hb4.size; have hx4 := hx2.below hb4
      go_wp2
      exact bodyPost_ret (v := .tuple #[newV w4, .int .i64 5]) (by simp [newV, results, Try.results31, go_sem]) rfl (newV_app HF.out (by repeat (first | exact Below.refl _ _ | refine Below.alloc ?_ (by first | omega | (simp; done) | (simp; omega)) _ | apply Below.drew | apply below_drewN | refine Below.setCell ?_ (by first | omega | (simp; done) | (simp; omega)) _ | refine Below.trans ?_ (Below.mono (by assumption) (by first | omega | (simp; done) | (simp; omega))))))
    · have HF := Lib.hid (joinE_yes hokx hoky (.inl (.inl HX.out)) h30)
      have h30' : decide ((30 : Int) < (x.length : Int) + (y.length : Int)) = false := by simp; omega
      go_enter Try.func31, Try.ntmps31
      go_wp2_with (go_at_call 42; first | (refine (valid_s0 B _ _ w hnx hx hvx).mono ?_; rintro e w1 ⟨rfl, hb1⟩; have hz1 := hb1.size; have hx1 := hx.below hb1; have hy1 := hy.below hb1) | (refine (valid_s0 B _ _ w1 hny hy1 hvy).mono ?_; rintro e w2 ⟨rfl, hb2⟩; have hz2 := hb2.size; have hx2 := hx1.below hb2; have hy2 := hy1.below hb2))
      refine wp_region_wb (by kernel_rfl) (by kernel_rfl) ?_
      repeat (go_big_quiet_step (fail))
      refine wpQuiet_nil ?_; intro w4 hw'; obtain ⟨⟨wq, hb4⟩, hw''⟩ := hw'; subst hw''; have hz4 := hb4.size; have hx4 := hx2.below hb4
      go_wp2_with (go_at_call 47; refine (own_ent B _ x w4 hx4 (by omega)).mono ?_; rintro e w3 ⟨v3, rfl, how3, hb3⟩)
      have hz3 := hb3.size
      go_loopw [7, 6] (fun i v wr => ∃ (k : Nat) (acc : List Ent), k ≤ y.length ∧ i = .int .i64 k ∧ acc.length = x.length + k ∧ (0 ≤ lastC acc ∧ lastC acc ≤ 65535) ∧ Below w.heap.size w wr ∧ EntL w.heap.size wr v acc ∧ Hid (joinL x y = joinL acc (y.drop k))) (fun i _ _ => y.length - (intOf i).toNat)
      case atStart => exact ⟨0, x, by omega, rfl, by simp, ok_last hokx, (by repeat (first | exact Below.refl _ _ | refine Below.alloc ?_ (by first | omega | (simp; done) | (simp; omega)) _ | apply Below.drew | apply below_drewN | refine Below.setCell ?_ (by first | omega | (simp; done) | (simp; omega)) _ | refine Below.trans ?_ (Below.mono (by assumption) (by first | omega | (simp; done) | (simp; omega))))), how3.base (by omega), Lib.hid rfl⟩
      case round =>
        obtain ⟨k, acc, hk, rfl, hacc, hlc, hb, how, HK⟩ := hrel
        by_cases hlt : k < y.length
        · obtain ⟨e, he⟩ : ∃ e, y[k]? = some e := ⟨y[k]'(by omega), List.getElem?_eq_getElem (by omega)⟩
          obtain ⟨g, hAe, _, hg⟩ := hAy.resolve_left (by rintro rfl; simp at hlt)
          subst hAe
          obtain ⟨p0, p1, p2, p3⟩ := ((EntS.of hy hg).below hb hg).2 k e he
          have hee := ok_ent hoky he
          have hzr := hb.size
          go_wp2_with (fail)
          have howd : EntL w.heap.size ({ wr with drawn := wr.drawn + 1 } : World) u6 acc := how
          have q0 := (show ({ wr with drawn := wr.drawn + 1 } : World).cell? _ = _ from p0)
          have q1 := (show ({ wr with drawn := wr.drawn + 1 } : World).cell? _ = _ from p1)
          have q2 := (show ({ wr with drawn := wr.drawn + 1 } : World).cell? _ = _ from p2)
          go_still_tail 16, (by kernel_rfl)
          go_wp2_with (go_at_call 46; refine (append_s w.heap.size _ acc e.verb e.before e.after _ howd hzr (by omega) hlc (hvy e (List.mem_of_getElem? he)) hee.1 hee.2).mono ?_; rintro e5 w5 ⟨v5, rfl, how5, hg5⟩)
          go_roundw
          case rel => exact ⟨k + 1, _, by omega, by go_num, by simp [hacc]; omega, by rw [lastC_app]; exact chainI_bd _ _ _ _, own_grown_below howd (hb.trans (Below.refl _ _).drew) hg5 (Nat.le_refl _) (by first | omega | (simp; done) | (simp; omega)), how5, join_next he HK⟩
          case measure => simp [intOf]; omega
        · go_wp2
          exact bodyPost_ret (v := .tuple #[u6, .int .i64 0]) (by simp [results, Try.results31, go_sem]) rfl (appL_own (HF.out.trans (by rw [join_end (by omega) HK])) how (Nat.le_refl _) hb)
  have hpx := List.length_pos_iff.2 hx0
  have hxd : decide ((0 : Int) < (x.length : Int)) = true := by simp; omega
  have hxn : decide (0 < x.length) = true := by simp; omega
  by_cases hy0 : y = []
  · have hyd : decide ((0 : Int) < (y.length : Int)) = false := by simp [hy0]
    have hyn : decide (0 < y.length) = false := by simp [hy0]
    have HX := Lib.hid hy0
    clear hy0
    by_cases h30 : 30 < x.length + y.length
    · have HF := Lib.hid (joinE_full hokx hoky (.inl (.inr HX.out)) h30)
      have h30' : decide ((30 : Int) < (x.length : Int) + (y.length : Int)) = true := by simp; omega
      go_enter Try.func31, Try.ntmps31
      go_wp2_with (go_at_call 42; first | (refine (valid_s0 B _ _ w hnx hx hvx).mono ?_; rintro e w1 ⟨rfl, hb1⟩; have hz1 := hb1.size; have hx1 := hx.below hb1; have hy1 := hy.below hb1) | (refine (valid_s0 B _ _ w1 hny hy1 hvy).mono ?_; rintro e w2 ⟨rfl, hb2⟩; have hz2 := hb2.size; have hx2 := hx1.below hb2; have hy2 := hy1.below hb2))
      refine wp_region_wb (by kernel_rfl) (by kernel_rfl) ?_
      repeat (go_big_quiet_step (fail))
      refine wpQuiet_nil ?_; intro w4 hw'; obtain ⟨⟨wq, hb4⟩, hw''⟩ := hw'; subst hw''; have hz4 := hb4.size; have hx4 := hx2.below hb4
      go_wp2
      exact bodyPost_ret (v := .tuple #[newV w4, .int .i64 5]) (by simp [newV, results, Try.results31, go_sem]) rfl (newV_app HF.out (by repeat (first | exact Below.refl _ _ | refine Below.alloc ?_ (by first | omega | (simp; done) | (simp; omega)) _ | apply Below.drew | apply below_drewN | refine Below.setCell ?_ (by first | omega | (simp; done) | (simp; omega)) _ | refine Below.trans ?_ (Below.mono (by assumption) (by first | omega | (simp; done) | (simp; omega))))))
    · have HF := Lib.hid (joinE_yes hokx hoky (.inl (.inr HX.out)) h30)
      have h30' : decide ((30 : Int) < (x.length : Int) + (y.length : Int)) = false := by simp; omega
      go_enter Try.func31, Try.ntmps31
      go_wp2_with (go_at_call 42; first | (refine (valid_s0 B _ _ w hnx hx hvx).mono ?_; rintro e w1 ⟨rfl, hb1⟩; have hz1 := hb1.size; have hx1 := hx.below hb1; have hy1 := hy.below hb1) | (refine (valid_s0 B _ _ w1 hny hy1 hvy).mono ?_; rintro e w2 ⟨rfl, hb2⟩; have hz2 := hb2.size; have hx2 := hx1.below hb2; have hy2 := hy1.below hb2))
      refine wp_region_wb (by kernel_rfl) (by kernel_rfl) ?_
      repeat (go_big_quiet_step (fail))
      refine wpQuiet_nil ?_; intro w4 hw'; obtain ⟨⟨wq, hb4⟩, hw''⟩ := hw'; subst hw''; have hz4 := hb4.size; have hx4 := hx2.below hb4
      go_wp2_with (go_at_call 47; refine (own_ent B _ x w4 hx4 (by omega)).mono ?_; rintro e w3 ⟨v3, rfl, how3, hb3⟩)
      have hz3 := hb3.size
      go_loopw [7, 6] (fun i v wr => ∃ (k : Nat) (acc : List Ent), k ≤ y.length ∧ i = .int .i64 k ∧ acc.length = x.length + k ∧ (0 ≤ lastC acc ∧ lastC acc ≤ 65535) ∧ Below w.heap.size w wr ∧ EntL w.heap.size wr v acc ∧ Hid (joinL x y = joinL acc (y.drop k))) (fun i _ _ => y.length - (intOf i).toNat)
      case atStart => exact ⟨0, x, by omega, rfl, by simp, ok_last hokx, (by repeat (first | exact Below.refl _ _ | refine Below.alloc ?_ (by first | omega | (simp; done) | (simp; omega)) _ | apply Below.drew | apply below_drewN | refine Below.setCell ?_ (by first | omega | (simp; done) | (simp; omega)) _ | refine Below.trans ?_ (Below.mono (by assumption) (by first | omega | (simp; done) | (simp; omega))))), how3.base (by omega), Lib.hid rfl⟩
      case round =>
        obtain ⟨k, acc, hk, rfl, hacc, hlc, hb, how, HK⟩ := hrel
        by_cases hlt : k < y.length
        · obtain ⟨e, he⟩ : ∃ e, y[k]? = some e := ⟨y[k]'(by omega), List.getElem?_eq_getElem (by omega)⟩
          obtain ⟨g, hAe, _, hg⟩ := hAy.resolve_left (by rintro rfl; simp at hlt)
          subst hAe
          obtain ⟨p0, p1, p2, p3⟩ := ((EntS.of hy hg).below hb hg).2 k e he
          have hee := ok_ent hoky he
          have hzr := hb.size
          go_wp2_with (fail)
          have howd : EntL w.heap.size ({ wr with drawn := wr.drawn + 1 } : World) u6 acc := how
          have q0 := (show ({ wr with drawn := wr.drawn + 1 } : World).cell? _ = _ from p0)
          have q1 := (show ({ wr with drawn := wr.drawn + 1 } : World).cell? _ = _ from p1)
          have q2 := (show ({ wr with drawn := wr.drawn + 1 } : World).cell? _ = _ from p2)
          go_still_tail 16, (by kernel_rfl)
          go_wp2_with (go_at_call 46; refine (append_s w.heap.size _ acc e.verb e.before e.after _ howd hzr (by omega) hlc (hvy e (List.mem_of_getElem? he)) hee.1 hee.2).mono ?_; rintro e5 w5 ⟨v5, rfl, how5, hg5⟩)
          go_roundw
          case rel => exact ⟨k + 1, _, by omega, by go_num, by simp [hacc]; omega, by rw [lastC_app]; exact chainI_bd _ _ _ _, own_grown_below howd (hb.trans (Below.refl _ _).drew) hg5 (Nat.le_refl _) (by first | omega | (simp; done) | (simp; omega)), how5, join_next he HK⟩
          case measure => simp [intOf]; omega
        · go_wp2
          exact bodyPost_ret (v := .tuple #[u6, .int .i64 0]) (by simp [results, Try.results31, go_sem]) rfl (appL_own (HF.out.trans (by rw [join_end (by omega) HK])) how (Nat.le_refl _) hb)
  have hpy := List.length_pos_iff.2 hy0
  have hyd : decide ((0 : Int) < (y.length : Int)) = true := by simp; omega
  have hyn : decide (0 < y.length) = true := by simp; omega
  obtain ⟨g, hAe, _, hg⟩ := hAx.resolve_left hx0
  obtain ⟨g', hAe', _, hg'⟩ := hAy.resolve_left hy0
  subst hAe hAe'
  have hel : x[x.length - 1]? = some (x.getD (x.length - 1) default) := by rw [List.getD_eq_getElem?_getD, List.getElem?_eq_getElem (by omega : x.length - 1 < x.length)]; rfl
  have he0 : y[0]? = some (y.headD default) := by cases y with | nil => simp at hpy | cons a r => rfl
  have c1 : w.cell? ⟨g, (x.length - 1) * 4 + 2, none⟩ = some (.int .i64 (lastA x)) := OwnL.cell Ent.len hx hel (j := 2) rfl
  have c2 : w.cell? ⟨g', 1, none⟩ = some (.int .i64 (y.headD default).before) := by have := OwnL.cell Ent.len hy he0 (j := 1) rfl; simpa using this
  clear hel he0
  generalize hla : lastA x = la at c1
  generalize hlb : (y.headD default).before = lb at c2
  cases hc : (la != lb)
  · have HC : (x = [] ∨ y = []) ∨ (lastA x != (y.headD default).before) = false := .inr (by rw [hla, hlb]; exact hc)
    by_cases h30 : 30 < x.length + y.length
    · have HF := Lib.hid (joinE_full hokx hoky (HC) h30)
      have h30' : decide ((30 : Int) < (x.length : Int) + (y.length : Int)) = true := by simp; omega
      go_enter Try.func31, Try.ntmps31
      go_wp2_with (go_at_call 42; first | (refine (valid_s0 B _ _ w hnx hx hvx).mono ?_; rintro e w1 ⟨rfl, hb1⟩; have hz1 := hb1.size; have hx1 := hx.below hb1; have hy1 := hy.below hb1) | (refine (valid_s0 B _ _ w1 hny hy1 hvy).mono ?_; rintro e w2 ⟨rfl, hb2⟩; have hz2 := hb2.size; have hx2 := hx1.below hb2; have hy2 := hy1.below hb2))
      have d1 : ∀ z : Wb w2, z.1.cell? ⟨g, (x.length - 1) * 4 + 2, none⟩ = some (.int .i64 la) := fun z => Wb.cell ((hb2.cell (p := ⟨g, _, none⟩) (show g < _ by omega)).trans ((hb1.cell (p := ⟨g, _, none⟩) hg).trans c1)) z
      have d2 : ∀ z : Wb w2, z.1.cell? ⟨g', 1, none⟩ = some (.int .i64 lb) := fun z => Wb.cell ((hb2.cell (p := ⟨g', _, none⟩) (show g' < _ by omega)).trans ((hb1.cell (p := ⟨g', _, none⟩) hg').trans c2)) z
      refine wp_region_wb (by kernel_rfl) (by kernel_rfl) ?_
      repeat (go_big_quiet_step (fail))
      refine wpQuiet_nil ?_; intro w4 hw'; obtain ⟨⟨wq, hb4⟩, hw''⟩ := hw'; subst hw''; have hz4 := hb4.size; have hx4 := hx2.below hb4
      clear d1 d2
      go_wp2
      exact bodyPost_ret (v := .tuple #[newV w4, .int .i64 5]) (by simp [newV, results, Try.results31, go_sem]) rfl (newV_app HF.out (by repeat (first | exact Below.refl _ _ | refine Below.alloc ?_ (by first | omega | (simp; done) | (simp; omega)) _ | apply Below.drew | apply below_drewN | refine Below.setCell ?_ (by first | omega | (simp; done) | (simp; omega)) _ | refine Below.trans ?_ (Below.mono (by assumption) (by first | omega | (simp; done) | (simp; omega))))))
    · have HF := Lib.hid (joinE_yes hokx hoky (HC) h30)
      have h30' : decide ((30 : Int) < (x.length : Int) + (y.length : Int)) = false := by simp; omega
      go_enter Try.func31, Try.ntmps31
      go_wp2_with (go_at_call 42; first | (refine (valid_s0 B _ _ w hnx hx hvx).mono ?_; rintro e w1 ⟨rfl, hb1⟩; have hz1 := hb1.size; have hx1 := hx.below hb1; have hy1 := hy.below hb1) | (refine (valid_s0 B _ _ w1 hny hy1 hvy).mono ?_; rintro e w2 ⟨rfl, hb2⟩; have hz2 := hb2.size; have hx2 := hx1.below hb2; have hy2 := hy1.below hb2))
      have d1 : ∀ z : Wb w2, z.1.cell? ⟨g, (x.length - 1) * 4 + 2, none⟩ = some (.int .i64 la) := fun z => Wb.cell ((hb2.cell (p := ⟨g, _, none⟩) (show g < _ by omega)).trans ((hb1.cell (p := ⟨g, _, none⟩) hg).trans c1)) z
      have d2 : ∀ z : Wb w2, z.1.cell? ⟨g', 1, none⟩ = some (.int .i64 lb) := fun z => Wb.cell ((hb2.cell (p := ⟨g', _, none⟩) (show g' < _ by omega)).trans ((hb1.cell (p := ⟨g', _, none⟩) hg').trans c2)) z
      refine wp_region_wb (by kernel_rfl) (by kernel_rfl) ?_
      repeat (go_big_quiet_step (fail))
      refine wpQuiet_nil ?_; intro w4 hw'; obtain ⟨⟨wq, hb4⟩, hw''⟩ := hw'; subst hw''; have hz4 := hb4.size; have hx4 := hx2.below hb4
      clear d1 d2
      go_wp2_with (go_at_call 47; refine (own_ent B _ x w4 hx4 (by omega)).mono ?_; rintro e w3 ⟨v3, rfl, how3, hb3⟩)
      have hz3 := hb3.size
      go_loopw [7, 6] (fun i v wr => ∃ (k : Nat) (acc : List Ent), k ≤ y.length ∧ i = .int .i64 k ∧ acc.length = x.length + k ∧ (0 ≤ lastC acc ∧ lastC acc ≤ 65535) ∧ Below w.heap.size w wr ∧ EntL w.heap.size wr v acc ∧ Hid (joinL x y = joinL acc (y.drop k))) (fun i _ _ => y.length - (intOf i).toNat)
      case atStart => exact ⟨0, x, by omega, rfl, by simp, ok_last hokx, (by repeat (first | exact Below.refl _ _ | refine Below.alloc ?_ (by first | omega | (simp; done) | (simp; omega)) _ | apply Below.drew | apply below_drewN | refine Below.setCell ?_ (by first | omega | (simp; done) | (simp; omega)) _ | refine Below.trans ?_ (Below.mono (by assumption) (by first | omega | (simp; done) | (simp; omega))))), how3.base (by omega), Lib.hid rfl⟩
      case round =>
        obtain ⟨k, acc, hk, rfl, hacc, hlc, hb, how, HK⟩ := hrel
        by_cases hlt : k < y.length
        · obtain ⟨e, he⟩ : ∃ e, y[k]? = some e := ⟨y[k]'(by omega), List.getElem?_eq_getElem (by omega)⟩
          skip
          skip
          obtain ⟨p0, p1, p2, p3⟩ := ((EntS.of hy hg').below hb hg').2 k e he
          have hee := ok_ent hoky he
          have hzr := hb.size
          go_wp2_with (fail)
          have howd : EntL w.heap.size ({ wr with drawn := wr.drawn + 1 } : World) u6 acc := how
          have q0 := (show ({ wr with drawn := wr.drawn + 1 } : World).cell? _ = _ from p0)
          have q1 := (show ({ wr with drawn := wr.drawn + 1 } : World).cell? _ = _ from p1)
          have q2 := (show ({ wr with drawn := wr.drawn + 1 } : World).cell? _ = _ from p2)
          go_still_tail 16, (by kernel_rfl)
          go_wp2_with (go_at_call 46; refine (append_s w.heap.size _ acc e.verb e.before e.after _ howd hzr (by omega) hlc (hvy e (List.mem_of_getElem? he)) hee.1 hee.2).mono ?_; rintro e5 w5 ⟨v5, rfl, how5, hg5⟩)
          go_roundw
          case rel => exact ⟨k + 1, _, by omega, by go_num, by simp [hacc]; omega, by rw [lastC_app]; exact chainI_bd _ _ _ _, own_grown_below howd (hb.trans (Below.refl _ _).drew) hg5 (Nat.le_refl _) (by first | omega | (simp; done) | (simp; omega)), how5, join_next he HK⟩
          case measure => simp [intOf]; omega
        · go_wp2
          exact bodyPost_ret (v := .tuple #[u6, .int .i64 0]) (by simp [results, Try.results31, go_sem]) rfl (appL_own (HF.out.trans (by rw [join_end (by omega) HK])) how (Nat.le_refl _) hb)
  · have HF := Lib.hid (joinE_gap hokx hoky hx0 hy0 (by rw [hla, hlb]; exact hc))
    go_enter Try.func31, Try.ntmps31
    go_wp2_with (go_at_call 42; first | (refine (valid_s0 B _ _ w hnx hx hvx).mono ?_; rintro e w1 ⟨rfl, hb1⟩; have hz1 := hb1.size; have hx1 := hx.below hb1; have hy1 := hy.below hb1) | (refine (valid_s0 B _ _ w1 hny hy1 hvy).mono ?_; rintro e w2 ⟨rfl, hb2⟩; have hz2 := hb2.size; have hx2 := hx1.below hb2; have hy2 := hy1.below hb2))
    have d1 : ∀ z : Wb w2, z.1.cell? ⟨g, (x.length - 1) * 4 + 2, none⟩ = some (.int .i64 la) := fun z => Wb.cell ((hb2.cell (p := ⟨g, _, none⟩) (show g < _ by omega)).trans ((hb1.cell (p := ⟨g, _, none⟩) hg).trans c1)) z
    have d2 : ∀ z : Wb w2, z.1.cell? ⟨g', 1, none⟩ = some (.int .i64 lb) := fun z => Wb.cell ((hb2.cell (p := ⟨g', _, none⟩) (show g' < _ by omega)).trans ((hb1.cell (p := ⟨g', _, none⟩) hg').trans c2)) z
    refine wp_region_wb (by kernel_rfl) (by kernel_rfl) ?_
    repeat (go_big_quiet_step (fail))
    refine wpQuiet_nil ?_; intro w4 hw'; obtain ⟨⟨wq, hb4⟩, hw''⟩ := hw'; subst hw''; have hz4 := hb4.size; have hx4 := hx2.below hb4
    clear d1 d2
    go_wp2
    exact bodyPost_ret (v := .tuple #[newV w4, .int .i64 6]) (by simp [newV, results, Try.results31, go_sem]) rfl (newV_app HF.out (by repeat (first | exact Below.refl _ _ | refine Below.alloc ?_ (by first | omega | (simp; done) | (simp; omega)) _ | apply Below.drew | apply below_drewN | refine Below.setCell ?_ (by first | omega | (simp; done) | (simp; omega)) _ | refine Below.trans ?_ (Below.mono (by assumption) (by first | omega | (simp; done) | (simp; omega))))))
end Go.Proofs.Ytkcdemjflbnhbaa
