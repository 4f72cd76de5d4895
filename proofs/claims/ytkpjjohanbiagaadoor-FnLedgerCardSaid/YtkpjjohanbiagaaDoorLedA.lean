/- AppendEntry over slices that begin anywhere. Turned from AppLaw by a program. -/
import Derived.Test.YtkpjjohanbiagaaDoorJnO
import Derived.Test.YtkpjjohanbiagaaDoorAppLaw
namespace Go.Proofs.YtkpjjohanbiagaaDoor
set_option linter.unusedVariables false
set_option linter.unusedSimpArgs false
open Go.RowKit
set_option maxHeartbeats 4000000 in
theorem appendE_io (v : Value) (l : List Ent) (s a b : ByteArray) (w : World) (hn : l.length ≤ 1048576) (h : EntO w v l) (hv : ∀ e ∈ l, e.verb.size ≤ 1048576) (hs : s.size ≤ 1048576) (ha : a.size ≤ 1048576) (hb : b.size ≤ 1048576) :
    Calls Tryd.prog 18 #[v, .string s, .string a, .string b] w fun e w' => AppL w (appE l s a b) e w' := by
  have h0 := h
  obtain ⟨A, c, hvv, -, hA⟩ := h0
  cases hok : ledgerOk l
  · have HF := Lib.hid (appE_no (l := l) (s := s) (a := a) (b := b) (by simp [hok]))
    subst hvv
    go_enter Tryd.func18, Tryd.ntmps18
    go_wp2_with (first | (go_at_call 20; refine (valid_io _ _ _ hn h hv).mono ?_; rintro e w1 ⟨rfl, hb1⟩) | (go_at_call 46; refine (verb_i s _ hs).mono ?_; rintro e w2 ⟨rfl, rfl⟩))
    have hz1 := hb1.size
    exact bodyPost_ret (v := .tuple #[nilV w1, .int .i64 1]) (by simp [nilV, results, Tryd.results18, go_sem]) rfl (nilV_app HF.out (by repeat (first | exact Below.refl _ _ | refine Below.alloc ?_ (by first | omega | (simp; done) | (simp; omega)) _ | apply Below.drew | apply below_drewN | refine Below.setCell ?_ (by first | omega | (simp; done) | (simp; omega)) _ | refine Below.trans ?_ (Below.mono (by assumption) (by first | omega | (simp; done) | (simp; omega))))))
  cases hvb : verbOk s.data.toList
  · have HF := Lib.hid (appE_no (l := l) (s := s) (a := a) (b := b) (by simp [hvb]))
    subst hvv
    go_enter Tryd.func18, Tryd.ntmps18
    go_wp2_with (first | (go_at_call 20; refine (valid_io _ _ _ hn h hv).mono ?_; rintro e w1 ⟨rfl, hb1⟩) | (go_at_call 46; refine (verb_i s _ hs).mono ?_; rintro e w2 ⟨rfl, rfl⟩))
    have hz1 := hb1.size
    exact bodyPost_ret (v := .tuple #[nilV w1, .int .i64 1]) (by simp [nilV, results, Tryd.results18, go_sem]) rfl (nilV_app HF.out (by repeat (first | exact Below.refl _ _ | refine Below.alloc ?_ (by first | omega | (simp; done) | (simp; omega)) _ | apply Below.drew | apply below_drewN | refine Below.setCell ?_ (by first | omega | (simp; done) | (simp; omega)) _ | refine Below.trans ?_ (Below.mono (by assumption) (by first | omega | (simp; done) | (simp; omega))))))
  have hlen := ok_len hok
  by_cases hl0 : l = []
  · subst hl0
    subst hvv
    have HF := Lib.hid (appE_yes (l := []) (a := a) (b := b) hok hvb (.inl rfl) (by simp))
    go_enter Tryd.func18, Tryd.ntmps18
    go_wp2_with (first | (go_at_call 20; refine (valid_io _ _ _ hn h hv).mono ?_; rintro e w1 ⟨rfl, hb1⟩) | (go_at_call 46; refine (verb_i s _ hs).mono ?_; rintro e w2 ⟨rfl, rfl⟩))
    refine wp_region_wb (by kernel_rfl) (by kernel_rfl) ?_
    repeat (go_big_quiet_step ((go_at_call 47; exact Wb.same (check_i _ _ (by omega)))))
    refine wpQuiet_nil ?_; intro w3 hw'; obtain ⟨⟨wq, hb3⟩, hw''⟩ := hw'; subst hw''; have hz1 := hb1.size; have hz3 := hb3.size
    have h2 : EntO w3 (.slice A 0 c) [] := (EntO.below (show EntO w (.slice A 0 c) [] from h) hb1).below hb3
    go_wp2_with (go_at_call 49; refine (clone_o _ [] w3 h2 (by simp)).mono ?_; rintro e w4 ⟨v4, rfl, how4, hb4⟩)
    have hz4 := hb4.size
    go_wp2_with (first | (go_at_call 47; refine (check_i _ _ (by omega)).mono ?_; rintro e w5 ⟨rfl, rfl⟩) | (go_at_call 48; refine (append_i0 w3.heap.size v4 [] s (crcB a : Int) (crcB b : Int) _ how4 hz4 (by simp) (by simp [lastC]) hs (crcB_bd a) (crcB_bd b)).mono ?_; rintro e w5 ⟨v5, rfl, how5, hg5⟩))
    exact bodyPost_ret (v := .tuple #[v5, .int .i64 0]) (by simp [results, Tryd.results18, go_sem]; done) rfl (appL_own HF.out how5 (by omega) (own_grown_below how4 (by repeat (first | exact Below.refl _ _ | refine Below.alloc ?_ (by first | omega | (simp; done) | (simp; omega)) _ | apply Below.drew | apply below_drewN | refine Below.setCell ?_ (by first | omega | (simp; done) | (simp; omega)) _ | refine Below.trans ?_ (Below.mono (by assumption) (by first | omega | (simp; done) | (simp; omega))))) hg5 (by omega) (by omega)))
  · have hp : 0 < l.length := List.length_pos_iff.2 hl0
    obtain ⟨g, o, rfl, hg⟩ := hA.resolve_left hl0
    clear hA
    subst hvv
    have hel : l[l.length - 1]? = some (l.getD (l.length - 1) default) := by rw [List.getD_eq_getElem?_getD, List.getElem?_eq_getElem (by omega : l.length - 1 < l.length)]; rfl
    have c1 : w.cell? ⟨g, o + (l.length - 1) * 4 + 2, none⟩ = some (.int .i64 (lastA l)) := (hg.2 _ _ hel).2.2.1
    clear hel
    generalize hla : lastA l = la at c1
    cases hc : (la != (crcB a : Int))
    · by_cases h30 : 30 ≤ l.length
      · have HF := Lib.hid (appE_full (l := l) (b := b) hok hvb (.inr (hla ▸ hc)) h30)
        have h30' : ((l.length : Int) == 30) = true := by simp; omega
        have h31 : (decide ((30 : Int) ≤ (l.length : Int))) = true := by simp; omega
        go_enter Tryd.func18, Tryd.ntmps18
        go_wp2_with (first | (go_at_call 20; refine (valid_io _ _ _ hn h hv).mono ?_; rintro e w1 ⟨rfl, hb1⟩) | (go_at_call 46; refine (verb_i s _ hs).mono ?_; rintro e w2 ⟨rfl, rfl⟩))
        have d1 : ∀ x : Wb w1, x.1.cell? ⟨g, o + (l.length - 1) * 4 + 2, none⟩ = some (.int .i64 la) := fun x => Wb.cell ((hb1.cell (p := ⟨g, _, none⟩) hg.1).trans c1) x
        refine wp_region_wb (by kernel_rfl) (by kernel_rfl) ?_
        repeat (go_big_quiet_step ((go_at_call 47; exact Wb.same (check_i _ _ (by omega)))))
        refine wpQuiet_nil ?_; intro w3 hw'; obtain ⟨⟨wq, hb3⟩, hw''⟩ := hw'; subst hw''; have hz1 := hb1.size; have hz3 := hb3.size
        clear d1
        go_wp2_with (fail)
        exact bodyPost_ret (v := .tuple #[nilV w3, .int .i64 5]) (by simp [nilV, results, Tryd.results18, go_sem]) rfl (nilV_app HF.out (by repeat (first | exact Below.refl _ _ | refine Below.alloc ?_ (by first | omega | (simp; done) | (simp; omega)) _ | apply Below.drew | apply below_drewN | refine Below.setCell ?_ (by first | omega | (simp; done) | (simp; omega)) _ | refine Below.trans ?_ (Below.mono (by assumption) (by first | omega | (simp; done) | (simp; omega))))))
      · have HF := Lib.hid (appE_yes (l := l) (b := b) hok hvb (.inr (hla ▸ hc)) h30)
        have h30' : ((l.length : Int) == 30) = false := by simp; omega
        have h31 : (decide ((30 : Int) ≤ (l.length : Int))) = false := by simp; omega
        go_enter Tryd.func18, Tryd.ntmps18
        go_wp2_with (first | (go_at_call 20; refine (valid_io _ _ _ hn h hv).mono ?_; rintro e w1 ⟨rfl, hb1⟩) | (go_at_call 46; refine (verb_i s _ hs).mono ?_; rintro e w2 ⟨rfl, rfl⟩))
        have d1 : ∀ x : Wb w1, x.1.cell? ⟨g, o + (l.length - 1) * 4 + 2, none⟩ = some (.int .i64 la) := fun x => Wb.cell ((hb1.cell (p := ⟨g, _, none⟩) hg.1).trans c1) x
        refine wp_region_wb (by kernel_rfl) (by kernel_rfl) ?_
        repeat (go_big_quiet_step ((go_at_call 47; exact Wb.same (check_i _ _ (by omega)))))
        refine wpQuiet_nil ?_; intro w3 hw'; obtain ⟨⟨wq, hb3⟩, hw''⟩ := hw'; subst hw''; have hz1 := hb1.size; have hz3 := hb3.size
        clear d1
        have h2 : EntO w3 (.slice (some ⟨g, o, none⟩) l.length c) l := (EntO.below h hb1).below hb3
        go_wp2_with (go_at_call 49; refine (clone_o _ l w3 h2 (by omega)).mono ?_; rintro e w4 ⟨v4, rfl, how4, hb4⟩)
        have hz4 := hb4.size
        go_wp2_with (first | (go_at_call 47; refine (check_i _ _ (by omega)).mono ?_; rintro e w5 ⟨rfl, rfl⟩) | (go_at_call 48; refine (append_i0 w3.heap.size v4 l s (crcB a : Int) (crcB b : Int) _ how4 hz4 (by omega) (ok_last hok) hs (crcB_bd a) (crcB_bd b)).mono ?_; rintro e w5 ⟨v5, rfl, how5, hg5⟩))
        exact bodyPost_ret (v := .tuple #[v5, .int .i64 0]) (by simp [results, Tryd.results18, go_sem]; done) rfl (appL_own HF.out how5 (by omega) (own_grown_below how4 (by repeat (first | exact Below.refl _ _ | refine Below.alloc ?_ (by first | omega | (simp; done) | (simp; omega)) _ | apply Below.drew | apply below_drewN | refine Below.setCell ?_ (by first | omega | (simp; done) | (simp; omega)) _ | refine Below.trans ?_ (Below.mono (by assumption) (by first | omega | (simp; done) | (simp; omega))))) hg5 (by omega) (by omega)))
    · have HF := Lib.hid (appE_gap (l := l) (b := b) hok hvb hl0 (hla ▸ hc))
      go_enter Tryd.func18, Tryd.ntmps18
      go_wp2_with (first | (go_at_call 20; refine (valid_io _ _ _ hn h hv).mono ?_; rintro e w1 ⟨rfl, hb1⟩) | (go_at_call 46; refine (verb_i s _ hs).mono ?_; rintro e w2 ⟨rfl, rfl⟩))
      have d1 : ∀ x : Wb w1, x.1.cell? ⟨g, o + (l.length - 1) * 4 + 2, none⟩ = some (.int .i64 la) := fun x => Wb.cell ((hb1.cell (p := ⟨g, _, none⟩) hg.1).trans c1) x
      refine wp_region_wb (by kernel_rfl) (by kernel_rfl) ?_
      repeat (go_big_quiet_step ((go_at_call 47; exact Wb.same (check_i _ _ (by omega)))))
      refine wpQuiet_nil ?_; intro w3 hw'; obtain ⟨⟨wq, hb3⟩, hw''⟩ := hw'; subst hw''; have hz1 := hb1.size; have hz3 := hb3.size
      clear d1
      go_wp2_with (fail)
      exact bodyPost_ret (v := .tuple #[nilV w3, .int .i64 6]) (by simp [nilV, results, Tryd.results18, go_sem]) rfl (nilV_app HF.out (by repeat (first | exact Below.refl _ _ | refine Below.alloc ?_ (by first | omega | (simp; done) | (simp; omega)) _ | apply Below.drew | apply below_drewN | refine Below.setCell ?_ (by first | omega | (simp; done) | (simp; omega)) _ | refine Below.trans ?_ (Below.mono (by assumption) (by first | omega | (simp; done) | (simp; omega))))))
end Go.Proofs.YtkpjjohanbiagaaDoor
