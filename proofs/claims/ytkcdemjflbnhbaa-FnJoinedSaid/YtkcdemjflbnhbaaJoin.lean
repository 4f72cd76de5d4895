/- JoinLedgers, impl and spec. -/
import Derived.Test.YtkcdemjflbnhbaaAppLaw
namespace Go.Proofs.Ytkcdemjflbnhbaa
set_option linter.unusedVariables false
open Go.RowKit

theorem broken_ent {l : List Ent} : ∀ {i : Nat} {last prev : Int}, broken i last prev l < 0 → ∀ (k : Nat) (e : Ent), l[k]? = some e → (0 ≤ e.before ∧ e.before ≤ 65535) ∧ (0 ≤ e.after ∧ e.after ≤ 65535) := by
  induction l with
  | nil => intro i last prev _ k e he; simp at he
  | cons a r ih =>
    intro i last prev hb k e he
    rw [broken] at hb
    split at hb
    · rename_i hok
      cases k with
      | zero =>
        simp at he; subst he
        simp [entOk, inB] at hok
        omega
      | succ k => exact ih hb k e (by simpa using he)
    · omega
theorem ok_ent {l : List Ent} (h : ledgerOk l = true) {k : Nat} {e : Ent} (he : l[k]? = some e) : (0 ≤ e.before ∧ e.before ≤ 65535) ∧ (0 ≤ e.after ∧ e.after ≤ 65535) :=
  broken_ent (by simpa [ledgerOk] using h) k e he
def joinF (acc : List Ent) (e : Ent) : List Ent := acc ++ [nextE acc e.verb e.before e.after]
def joinL (x y : List Ent) : List Ent := y.foldl joinF x
theorem join_next {x y acc : List Ent} {k : Nat} {e : Ent} (he : y[k]? = some e) (H : Hid (joinL x y = joinL acc (y.drop k))) : Hid (joinL x y = joinL (acc ++ [nextE acc e.verb e.before e.after]) (y.drop (k + 1))) :=
  Lib.hid (by rw [H.out, drop_cons he]; rfl)
theorem join_end {x y acc : List Ent} {k : Nat} (hk : y.length ≤ k) (H : Hid (joinL x y = joinL acc (y.drop k))) : joinL x y = acc := by
  rw [H.out, List.drop_of_length_le hk]; rfl
theorem lastC_app (acc : List Ent) (e : Ent) : lastC (acc ++ [e]) = e.chain := by
  rw [lastC_get (by simp), List.getD_eq_getElem?_getD]; simp
def joinE (x y : List Ent) : List Ent × Int :=
  if (ledgerOk x && ledgerOk y) = false then ([], 1)
  else if (x ≠ [] ∧ y ≠ []) ∧ (lastA x != (y.headD default).before) = true then ([], 6)
  else if 30 < x.length + y.length then ([], 5)
  else (joinL x y, 0)
theorem join_len (x y : List Ent) : (joinL x y).length = x.length + y.length := by
  unfold joinL
  induction y generalizing x with
  | nil => rfl
  | cons a r ih => rw [List.foldl_cons, ih]; simp [joinF]; omega
theorem joinE_len (x y : List Ent) : (joinE x y).1.length ≤ x.length + y.length := by
  unfold joinE; split; simp; split; simp; split; simp; simp [join_len]
theorem joinE_no {x y : List Ent} (h : (ledgerOk x && ledgerOk y) = false) : joinE x y = ([], 1) := by simp [joinE, h]
theorem joinE_gap {x y : List Ent} (h : ledgerOk x = true) (h' : ledgerOk y = true) (hx : x ≠ []) (hy : y ≠ []) (h1 : (lastA x != (y.headD default).before) = true) : joinE x y = ([], 6) := by
  rw [joinE, if_neg (by simp [h, h']), if_pos ⟨⟨hx, hy⟩, h1⟩]
theorem joinE_full {x y : List Ent} (h : ledgerOk x = true) (h' : ledgerOk y = true) (h1 : (x = [] ∨ y = []) ∨ (lastA x != (y.headD default).before) = false) (h2 : 30 < x.length + y.length) : joinE x y = ([], 5) := by
  rw [joinE, if_neg (by simp [h, h']), if_neg (by rintro ⟨⟨p, q⟩, r⟩; rcases h1 with (h1 | h1) | h1; exact p h1; exact q h1; rw [h1] at r; cases r), if_pos h2]
theorem joinE_yes {x y : List Ent} (h : ledgerOk x = true) (h' : ledgerOk y = true) (h1 : (x = [] ∨ y = []) ∨ (lastA x != (y.headD default).before) = false) (h2 : ¬ 30 < x.length + y.length) : joinE x y = (joinL x y, 0) := by
  rw [joinE, if_neg (by simp [h, h']), if_neg (by rintro ⟨⟨p, q⟩, r⟩; rcases h1 with (h1 | h1) | h1; exact p h1; exact q h1; rw [h1] at r; cases r), if_neg h2]

set_option maxHeartbeats 4000000 in
theorem join_i (B : Nat) (vx vy : Value) (x y : List Ent) (w : World) (hnx : x.length ≤ 1048576) (hny : y.length ≤ 1048576) (hx : EntL B w vx x) (hy : EntL B w vy y) (hvx : ∀ e ∈ x, e.verb.size ≤ 1048576) (hvy : ∀ e ∈ y, e.verb.size ≤ 1048576) :
    Calls Try.prog 32 #[vx, vy] w fun e w' => AppL w (joinE x y) e w' := by
  obtain ⟨Ax, cx, rfl, hAx⟩ := hx.shape
  obtain ⟨Ay, cy, rfl, hAy⟩ := hy.shape
  cases hokx : ledgerOk x
  · have HF := Lib.hid (joinE_no (x := x) (y := y) (by simp [hokx]))
    go_enter Try.func32, Try.ntmps32
    go_wp2_with (go_at_call 19; first | (refine (valid_i B _ _ w hnx hx hvx).mono ?_; rintro e w1 ⟨rfl, hb1⟩; have hz1 := hb1.size; have hx1 := hx.below hb1; have hy1 := hy.below hb1) | (refine (valid_i B _ _ w1 hny hy1 hvy).mono ?_; rintro e w2 ⟨rfl, hb2⟩; have hz2 := hb2.size; have hx2 := hx1.below hb2; have hy2 := hy1.below hb2))
    exact bodyPost_ret (v := .tuple #[nilV w1, .int .i64 1]) (by simp [nilV, results, Try.results32, go_sem]) rfl (nilV_app HF.out (by repeat (first | exact Below.refl _ _ | refine Below.alloc ?_ (by first | omega | (simp; done) | (simp; omega)) _ | apply Below.drew | apply below_drewN | refine Below.setCell ?_ (by first | omega | (simp; done) | (simp; omega)) _ | refine Below.trans ?_ (Below.mono (by assumption) (by first | omega | (simp; done) | (simp; omega))))))
  cases hoky : ledgerOk y
  · have HF := Lib.hid (joinE_no (x := x) (y := y) (by simp [hoky]))
    go_enter Try.func32, Try.ntmps32
    go_wp2_with (go_at_call 19; first | (refine (valid_i B _ _ w hnx hx hvx).mono ?_; rintro e w1 ⟨rfl, hb1⟩; have hz1 := hb1.size; have hx1 := hx.below hb1; have hy1 := hy.below hb1) | (refine (valid_i B _ _ w1 hny hy1 hvy).mono ?_; rintro e w2 ⟨rfl, hb2⟩; have hz2 := hb2.size; have hx2 := hx1.below hb2; have hy2 := hy1.below hb2))
    exact bodyPost_ret (v := .tuple #[nilV w2, .int .i64 1]) (by simp [nilV, results, Try.results32, go_sem]) rfl (nilV_app HF.out (by repeat (first | exact Below.refl _ _ | refine Below.alloc ?_ (by first | omega | (simp; done) | (simp; omega)) _ | apply Below.drew | apply below_drewN | refine Below.setCell ?_ (by first | omega | (simp; done) | (simp; omega)) _ | refine Below.trans ?_ (Below.mono (by assumption) (by first | omega | (simp; done) | (simp; omega))))))
  have hlx := ok_len hokx
  have hly := ok_len hoky
  by_cases hx0 : x = []
  · have hxd : decide ((0 : Int) < (x.length : Int)) = false := by simp [hx0]
    have hxn : decide (0 < x.length) = false := by simp [hx0]
    have HX := Lib.hid hx0
    clear hx0
    by_cases h30 : 30 < x.length + y.length
    · have HF := Lib.hid (joinE_full hokx hoky (.inl (.inl HX.out)) h30)
      have h30' : decide ((30 : Int) < (x.length : Int) + (y.length : Int)) = true := by simp; omega
      go_enter Try.func32, Try.ntmps32
      go_wp2_with (go_at_call 19; first | (refine (valid_i B _ _ w hnx hx hvx).mono ?_; rintro e w1 ⟨rfl, hb1⟩; have hz1 := hb1.size; have hx1 := hx.below hb1; have hy1 := hy.below hb1) | (refine (valid_i B _ _ w1 hny hy1 hvy).mono ?_; rintro e w2 ⟨rfl, hb2⟩; have hz2 := hb2.size; have hx2 := hx1.below hb2; have hy2 := hy1.below hb2))
      refine wp_region_wb (by kernel_rfl) (by kernel_rfl) ?_
      repeat (go_big_quiet_step (fail))
      refine wpQuiet_nil ?_; intro w4 hw'; obtain ⟨⟨wq, hb4⟩, hw''⟩ := hw'; subst hw''; have hz4 := hb4.size; have hx4 := hx2.below hb4
      go_wp2
      exact bodyPost_ret (v := .tuple #[nilV w4, .int .i64 5]) (by simp [nilV, results, Try.results32, go_sem]) rfl (nilV_app HF.out (by repeat (first | exact Below.refl _ _ | refine Below.alloc ?_ (by first | omega | (simp; done) | (simp; omega)) _ | apply Below.drew | apply below_drewN | refine Below.setCell ?_ (by first | omega | (simp; done) | (simp; omega)) _ | refine Below.trans ?_ (Below.mono (by assumption) (by first | omega | (simp; done) | (simp; omega))))))
    · have HF := Lib.hid (joinE_yes hokx hoky (.inl (.inl HX.out)) h30)
      have h30' : decide ((30 : Int) < (x.length : Int) + (y.length : Int)) = false := by simp; omega
      go_enter Try.func32, Try.ntmps32
      go_wp2_with (go_at_call 19; first | (refine (valid_i B _ _ w hnx hx hvx).mono ?_; rintro e w1 ⟨rfl, hb1⟩; have hz1 := hb1.size; have hx1 := hx.below hb1; have hy1 := hy.below hb1) | (refine (valid_i B _ _ w1 hny hy1 hvy).mono ?_; rintro e w2 ⟨rfl, hb2⟩; have hz2 := hb2.size; have hx2 := hx1.below hb2; have hy2 := hy1.below hb2))
      refine wp_region_wb (by kernel_rfl) (by kernel_rfl) ?_
      repeat (go_big_quiet_step (fail))
      refine wpQuiet_nil ?_; intro w4 hw'; obtain ⟨⟨wq, hb4⟩, hw''⟩ := hw'; subst hw''; have hz4 := hb4.size; have hx4 := hx2.below hb4
      go_wp2_with (go_at_call 49; refine (clone_ent B _ x w4 hx4 (by omega)).mono ?_; rintro e w3 ⟨v3, rfl, how3, hb3⟩)
      have hz3 := hb3.size
      go_loopw [52, 6] (fun i v wr => ∃ (k : Nat) (acc : List Ent), k ≤ y.length ∧ i = .int .i64 k ∧ acc.length = x.length + k ∧ (0 ≤ lastC acc ∧ lastC acc ≤ 65535) ∧ Below w.heap.size w wr ∧ EntL w.heap.size wr v acc ∧ Hid (joinL x y = joinL acc (y.drop k))) (fun i _ _ => y.length - (intOf i).toNat)
      case atStart => exact ⟨0, x, by omega, rfl, by simp, ok_last hokx, (by repeat (first | exact Below.refl _ _ | refine Below.alloc ?_ (by first | omega | (simp; done) | (simp; omega)) _ | apply Below.drew | apply below_drewN | refine Below.setCell ?_ (by first | omega | (simp; done) | (simp; omega)) _ | refine Below.trans ?_ (Below.mono (by assumption) (by first | omega | (simp; done) | (simp; omega))))), how3.base (by omega), Lib.hid rfl⟩
      case round =>
        obtain ⟨k, acc, hk, rfl, hacc, hlc, hb, how, HK⟩ := hrel
        by_cases hlt : k < y.length
        · obtain ⟨e, he⟩ : ∃ e, y[k]? = some e := ⟨y[k]'(by omega), List.getElem?_eq_getElem (by omega)⟩
          obtain ⟨g, hAe, _, hg⟩ := hAy.resolve_left (by rintro rfl; simp at hlt)
          subst hAe
          obtain ⟨p0, p1, p2, p3⟩ := ((EntS.of hy hg).below hb hg).2 k e he
          have hee := ok_ent hoky he
          have hzr := hb.size
          go_wp2_with (go_at_call 48; refine (append_i w.heap.size _ acc e.verb e.before e.after e.chain _ (how.alloc _) (by simp; omega) (by omega) hlc (hvy e (List.mem_of_getElem? he)) hee.1 hee.2).mono ?_; rintro e5 w5 ⟨v5, rfl, how5, hg5⟩)
          go_roundw
          case rel => exact ⟨k + 1, _, by omega, by go_num, by simp [hacc]; omega, by rw [lastC_app]; exact chainI_bd _ _ _ _, own_grown_below (how.alloc _) (by repeat (first | exact Below.refl _ _ | refine Below.alloc ?_ (by first | omega | (simp; done) | (simp; omega)) _ | apply Below.drew | apply below_drewN | refine Below.setCell ?_ (by first | omega | (simp; done) | (simp; omega)) _ | refine Below.trans ?_ (Below.mono (by assumption) (by first | omega | (simp; done) | (simp; omega))))) hg5 (Nat.le_refl _) (by first | omega | (simp; done) | (simp; omega)), how5, join_next he HK⟩
          case measure => simp [intOf]; omega
        · go_wp2
          exact bodyPost_ret (v := .tuple #[u6, .int .i64 0]) (by simp [results, Try.results32, go_sem]) rfl (appL_own (HF.out.trans (by rw [join_end (by omega) HK])) how (Nat.le_refl _) hb)
  have hpx := List.length_pos_iff.2 hx0
  have hxd : decide ((0 : Int) < (x.length : Int)) = true := by simp; omega
  have hxn : decide (0 < x.length) = true := by simp; omega
  by_cases hy0 : y = []
  · have hyd : decide ((0 : Int) < (y.length : Int)) = false := by simp [hy0]
    have hyn : decide (0 < y.length) = false := by simp [hy0]
    have HX := Lib.hid hy0
    clear hy0
    by_cases h30 : 30 < x.length + y.length
    · have HF := Lib.hid (joinE_full hokx hoky (.inl (.inr HX.out)) h30)
      have h30' : decide ((30 : Int) < (x.length : Int) + (y.length : Int)) = true := by simp; omega
      go_enter Try.func32, Try.ntmps32
      go_wp2_with (go_at_call 19; first | (refine (valid_i B _ _ w hnx hx hvx).mono ?_; rintro e w1 ⟨rfl, hb1⟩; have hz1 := hb1.size; have hx1 := hx.below hb1; have hy1 := hy.below hb1) | (refine (valid_i B _ _ w1 hny hy1 hvy).mono ?_; rintro e w2 ⟨rfl, hb2⟩; have hz2 := hb2.size; have hx2 := hx1.below hb2; have hy2 := hy1.below hb2))
      refine wp_region_wb (by kernel_rfl) (by kernel_rfl) ?_
      repeat (go_big_quiet_step (fail))
      refine wpQuiet_nil ?_; intro w4 hw'; obtain ⟨⟨wq, hb4⟩, hw''⟩ := hw'; subst hw''; have hz4 := hb4.size; have hx4 := hx2.below hb4
      go_wp2
      exact bodyPost_ret (v := .tuple #[nilV w4, .int .i64 5]) (by simp [nilV, results, Try.results32, go_sem]) rfl (nilV_app HF.out (by repeat (first | exact Below.refl _ _ | refine Below.alloc ?_ (by first | omega | (simp; done) | (simp; omega)) _ | apply Below.drew | apply below_drewN | refine Below.setCell ?_ (by first | omega | (simp; done) | (simp; omega)) _ | refine Below.trans ?_ (Below.mono (by assumption) (by first | omega | (simp; done) | (simp; omega))))))
    · have HF := Lib.hid (joinE_yes hokx hoky (.inl (.inr HX.out)) h30)
      have h30' : decide ((30 : Int) < (x.length : Int) + (y.length : Int)) = false := by simp; omega
      go_enter Try.func32, Try.ntmps32
      go_wp2_with (go_at_call 19; first | (refine (valid_i B _ _ w hnx hx hvx).mono ?_; rintro e w1 ⟨rfl, hb1⟩; have hz1 := hb1.size; have hx1 := hx.below hb1; have hy1 := hy.below hb1) | (refine (valid_i B _ _ w1 hny hy1 hvy).mono ?_; rintro e w2 ⟨rfl, hb2⟩; have hz2 := hb2.size; have hx2 := hx1.below hb2; have hy2 := hy1.below hb2))
      refine wp_region_wb (by kernel_rfl) (by kernel_rfl) ?_
      repeat (go_big_quiet_step (fail))
      refine wpQuiet_nil ?_; intro w4 hw'; obtain ⟨⟨wq, hb4⟩, hw''⟩ := hw'; subst hw''; have hz4 := hb4.size; have hx4 := hx2.below hb4
      go_wp2_with (go_at_call 49; refine (clone_ent B _ x w4 hx4 (by omega)).mono ?_; rintro e w3 ⟨v3, rfl, how3, hb3⟩)
      have hz3 := hb3.size
      go_loopw [52, 6] (fun i v wr => ∃ (k : Nat) (acc : List Ent), k ≤ y.length ∧ i = .int .i64 k ∧ acc.length = x.length + k ∧ (0 ≤ lastC acc ∧ lastC acc ≤ 65535) ∧ Below w.heap.size w wr ∧ EntL w.heap.size wr v acc ∧ Hid (joinL x y = joinL acc (y.drop k))) (fun i _ _ => y.length - (intOf i).toNat)
      case atStart => exact ⟨0, x, by omega, rfl, by simp, ok_last hokx, (by repeat (first | exact Below.refl _ _ | refine Below.alloc ?_ (by first | omega | (simp; done) | (simp; omega)) _ | apply Below.drew | apply below_drewN | refine Below.setCell ?_ (by first | omega | (simp; done) | (simp; omega)) _ | refine Below.trans ?_ (Below.mono (by assumption) (by first | omega | (simp; done) | (simp; omega))))), how3.base (by omega), Lib.hid rfl⟩
      case round =>
        obtain ⟨k, acc, hk, rfl, hacc, hlc, hb, how, HK⟩ := hrel
        by_cases hlt : k < y.length
        · obtain ⟨e, he⟩ : ∃ e, y[k]? = some e := ⟨y[k]'(by omega), List.getElem?_eq_getElem (by omega)⟩
          obtain ⟨g, hAe, _, hg⟩ := hAy.resolve_left (by rintro rfl; simp at hlt)
          subst hAe
          obtain ⟨p0, p1, p2, p3⟩ := ((EntS.of hy hg).below hb hg).2 k e he
          have hee := ok_ent hoky he
          have hzr := hb.size
          go_wp2_with (go_at_call 48; refine (append_i w.heap.size _ acc e.verb e.before e.after e.chain _ (how.alloc _) (by simp; omega) (by omega) hlc (hvy e (List.mem_of_getElem? he)) hee.1 hee.2).mono ?_; rintro e5 w5 ⟨v5, rfl, how5, hg5⟩)
          go_roundw
          case rel => exact ⟨k + 1, _, by omega, by go_num, by simp [hacc]; omega, by rw [lastC_app]; exact chainI_bd _ _ _ _, own_grown_below (how.alloc _) (by repeat (first | exact Below.refl _ _ | refine Below.alloc ?_ (by first | omega | (simp; done) | (simp; omega)) _ | apply Below.drew | apply below_drewN | refine Below.setCell ?_ (by first | omega | (simp; done) | (simp; omega)) _ | refine Below.trans ?_ (Below.mono (by assumption) (by first | omega | (simp; done) | (simp; omega))))) hg5 (Nat.le_refl _) (by first | omega | (simp; done) | (simp; omega)), how5, join_next he HK⟩
          case measure => simp [intOf]; omega
        · go_wp2
          exact bodyPost_ret (v := .tuple #[u6, .int .i64 0]) (by simp [results, Try.results32, go_sem]) rfl (appL_own (HF.out.trans (by rw [join_end (by omega) HK])) how (Nat.le_refl _) hb)
  have hpy := List.length_pos_iff.2 hy0
  have hyd : decide ((0 : Int) < (y.length : Int)) = true := by simp; omega
  have hyn : decide (0 < y.length) = true := by simp; omega
  obtain ⟨g, hAe, _, hg⟩ := hAx.resolve_left hx0
  obtain ⟨g', hAe', _, hg'⟩ := hAy.resolve_left hy0
  subst hAe hAe'
  have hel : x[x.length - 1]? = some (x.getD (x.length - 1) default) := by rw [List.getD_eq_getElem?_getD, List.getElem?_eq_getElem (by omega : x.length - 1 < x.length)]; rfl
  have he0 : y[0]? = some (y.headD default) := by cases y with | nil => simp at hpy | cons a r => rfl
  have c1 : w.cell? ⟨g, (x.length - 1) * 4 + 2, none⟩ = some (.int .i64 (lastA x)) := OwnL.cell Ent.len hx hel (j := 2) rfl
  have c2 : w.cell? ⟨g', 1, none⟩ = some (.int .i64 (y.headD default).before) := by have := OwnL.cell Ent.len hy he0 (j := 1) rfl; simpa using this
  clear hel he0
  generalize hla : lastA x = la at c1
  generalize hlb : (y.headD default).before = lb at c2
  cases hc : (la != lb)
  · have HC : (x = [] ∨ y = []) ∨ (lastA x != (y.headD default).before) = false := .inr (by rw [hla, hlb]; exact hc)
    by_cases h30 : 30 < x.length + y.length
    · have HF := Lib.hid (joinE_full hokx hoky (HC) h30)
      have h30' : decide ((30 : Int) < (x.length : Int) + (y.length : Int)) = true := by simp; omega
      go_enter Try.func32, Try.ntmps32
      go_wp2_with (go_at_call 19; first | (refine (valid_i B _ _ w hnx hx hvx).mono ?_; rintro e w1 ⟨rfl, hb1⟩; have hz1 := hb1.size; have hx1 := hx.below hb1; have hy1 := hy.below hb1) | (refine (valid_i B _ _ w1 hny hy1 hvy).mono ?_; rintro e w2 ⟨rfl, hb2⟩; have hz2 := hb2.size; have hx2 := hx1.below hb2; have hy2 := hy1.below hb2))
      have d1 : ∀ z : Wb w2, z.1.cell? ⟨g, (x.length - 1) * 4 + 2, none⟩ = some (.int .i64 la) := fun z => Wb.cell ((hb2.cell (p := ⟨g, _, none⟩) (show g < _ by omega)).trans ((hb1.cell (p := ⟨g, _, none⟩) hg).trans c1)) z
      have d2 : ∀ z : Wb w2, z.1.cell? ⟨g', 1, none⟩ = some (.int .i64 lb) := fun z => Wb.cell ((hb2.cell (p := ⟨g', _, none⟩) (show g' < _ by omega)).trans ((hb1.cell (p := ⟨g', _, none⟩) hg').trans c2)) z
      refine wp_region_wb (by kernel_rfl) (by kernel_rfl) ?_
      repeat (go_big_quiet_step (fail))
      refine wpQuiet_nil ?_; intro w4 hw'; obtain ⟨⟨wq, hb4⟩, hw''⟩ := hw'; subst hw''; have hz4 := hb4.size; have hx4 := hx2.below hb4
      clear d1 d2
      go_wp2
      exact bodyPost_ret (v := .tuple #[nilV w4, .int .i64 5]) (by simp [nilV, results, Try.results32, go_sem]) rfl (nilV_app HF.out (by repeat (first | exact Below.refl _ _ | refine Below.alloc ?_ (by first | omega | (simp; done) | (simp; omega)) _ | apply Below.drew | apply below_drewN | refine Below.setCell ?_ (by first | omega | (simp; done) | (simp; omega)) _ | refine Below.trans ?_ (Below.mono (by assumption) (by first | omega | (simp; done) | (simp; omega))))))
    · have HF := Lib.hid (joinE_yes hokx hoky (HC) h30)
      have h30' : decide ((30 : Int) < (x.length : Int) + (y.length : Int)) = false := by simp; omega
      go_enter Try.func32, Try.ntmps32
      go_wp2_with (go_at_call 19; first | (refine (valid_i B _ _ w hnx hx hvx).mono ?_; rintro e w1 ⟨rfl, hb1⟩; have hz1 := hb1.size; have hx1 := hx.below hb1; have hy1 := hy.below hb1) | (refine (valid_i B _ _ w1 hny hy1 hvy).mono ?_; rintro e w2 ⟨rfl, hb2⟩; have hz2 := hb2.size; have hx2 := hx1.below hb2; have hy2 := hy1.below hb2))
      have d1 : ∀ z : Wb w2, z.1.cell? ⟨g, (x.length - 1) * 4 + 2, none⟩ = some (.int .i64 la) := fun z => Wb.cell ((hb2.cell (p := ⟨g, _, none⟩) (show g < _ by omega)).trans ((hb1.cell (p := ⟨g, _, none⟩) hg).trans c1)) z
      have d2 : ∀ z : Wb w2, z.1.cell? ⟨g', 1, none⟩ = some (.int .i64 lb) := fun z => Wb.cell ((hb2.cell (p := ⟨g', _, none⟩) (show g' < _ by omega)).trans ((hb1.cell (p := ⟨g', _, none⟩) hg').trans c2)) z
      refine wp_region_wb (by kernel_rfl) (by kernel_rfl) ?_
      repeat (go_big_quiet_step (fail))
      refine wpQuiet_nil ?_; intro w4 hw'; obtain ⟨⟨wq, hb4⟩, hw''⟩ := hw'; subst hw''; have hz4 := hb4.size; have hx4 := hx2.below hb4
      clear d1 d2
      go_wp2_with (go_at_call 49; refine (clone_ent B _ x w4 hx4 (by omega)).mono ?_; rintro e w3 ⟨v3, rfl, how3, hb3⟩)
      have hz3 := hb3.size
      go_loopw [52, 6] (fun i v wr => ∃ (k : Nat) (acc : List Ent), k ≤ y.length ∧ i = .int .i64 k ∧ acc.length = x.length + k ∧ (0 ≤ lastC acc ∧ lastC acc ≤ 65535) ∧ Below w.heap.size w wr ∧ EntL w.heap.size wr v acc ∧ Hid (joinL x y = joinL acc (y.drop k))) (fun i _ _ => y.length - (intOf i).toNat)
      case atStart => exact ⟨0, x, by omega, rfl, by simp, ok_last hokx, (by repeat (first | exact Below.refl _ _ | refine Below.alloc ?_ (by first | omega | (simp; done) | (simp; omega)) _ | apply Below.drew | apply below_drewN | refine Below.setCell ?_ (by first | omega | (simp; done) | (simp; omega)) _ | refine Below.trans ?_ (Below.mono (by assumption) (by first | omega | (simp; done) | (simp; omega))))), how3.base (by omega), Lib.hid rfl⟩
      case round =>
        obtain ⟨k, acc, hk, rfl, hacc, hlc, hb, how, HK⟩ := hrel
        by_cases hlt : k < y.length
        · obtain ⟨e, he⟩ : ∃ e, y[k]? = some e := ⟨y[k]'(by omega), List.getElem?_eq_getElem (by omega)⟩
          skip
          skip
          obtain ⟨p0, p1, p2, p3⟩ := ((EntS.of hy hg').below hb hg').2 k e he
          have hee := ok_ent hoky he
          have hzr := hb.size
          go_wp2_with (go_at_call 48; refine (append_i w.heap.size _ acc e.verb e.before e.after e.chain _ (how.alloc _) (by simp; omega) (by omega) hlc (hvy e (List.mem_of_getElem? he)) hee.1 hee.2).mono ?_; rintro e5 w5 ⟨v5, rfl, how5, hg5⟩)
          go_roundw
          case rel => exact ⟨k + 1, _, by omega, by go_num, by simp [hacc]; omega, by rw [lastC_app]; exact chainI_bd _ _ _ _, own_grown_below (how.alloc _) (by repeat (first | exact Below.refl _ _ | refine Below.alloc ?_ (by first | omega | (simp; done) | (simp; omega)) _ | apply Below.drew | apply below_drewN | refine Below.setCell ?_ (by first | omega | (simp; done) | (simp; omega)) _ | refine Below.trans ?_ (Below.mono (by assumption) (by first | omega | (simp; done) | (simp; omega))))) hg5 (Nat.le_refl _) (by first | omega | (simp; done) | (simp; omega)), how5, join_next he HK⟩
          case measure => simp [intOf]; omega
        · go_wp2
          exact bodyPost_ret (v := .tuple #[u6, .int .i64 0]) (by simp [results, Try.results32, go_sem]) rfl (appL_own (HF.out.trans (by rw [join_end (by omega) HK])) how (Nat.le_refl _) hb)
  · have HF := Lib.hid (joinE_gap hokx hoky hx0 hy0 (by rw [hla, hlb]; exact hc))
    go_enter Try.func32, Try.ntmps32
    go_wp2_with (go_at_call 19; first | (refine (valid_i B _ _ w hnx hx hvx).mono ?_; rintro e w1 ⟨rfl, hb1⟩; have hz1 := hb1.size; have hx1 := hx.below hb1; have hy1 := hy.below hb1) | (refine (valid_i B _ _ w1 hny hy1 hvy).mono ?_; rintro e w2 ⟨rfl, hb2⟩; have hz2 := hb2.size; have hx2 := hx1.below hb2; have hy2 := hy1.below hb2))
    have d1 : ∀ z : Wb w2, z.1.cell? ⟨g, (x.length - 1) * 4 + 2, none⟩ = some (.int .i64 la) := fun z => Wb.cell ((hb2.cell (p := ⟨g, _, none⟩) (show g < _ by omega)).trans ((hb1.cell (p := ⟨g, _, none⟩) hg).trans c1)) z
    have d2 : ∀ z : Wb w2, z.1.cell? ⟨g', 1, none⟩ = some (.int .i64 lb) := fun z => Wb.cell ((hb2.cell (p := ⟨g', _, none⟩) (show g' < _ by omega)).trans ((hb1.cell (p := ⟨g', _, none⟩) hg').trans c2)) z
    refine wp_region_wb (by kernel_rfl) (by kernel_rfl) ?_
    repeat (go_big_quiet_step (fail))
    refine wpQuiet_nil ?_; intro w4 hw'; obtain ⟨⟨wq, hb4⟩, hw''⟩ := hw'; subst hw''; have hz4 := hb4.size; have hx4 := hx2.below hb4
    clear d1 d2
    go_wp2
    exact bodyPost_ret (v := .tuple #[nilV w4, .int .i64 6]) (by simp [nilV, results, Try.results32, go_sem]) rfl (nilV_app HF.out (by repeat (first | exact Below.refl _ _ | refine Below.alloc ?_ (by first | omega | (simp; done) | (simp; omega)) _ | apply Below.drew | apply below_drewN | refine Below.setCell ?_ (by first | omega | (simp; done) | (simp; omega)) _ | refine Below.trans ?_ (Below.mono (by assumption) (by first | omega | (simp; done) | (simp; omega))))))
end Go.Proofs.Ytkcdemjflbnhbaa
