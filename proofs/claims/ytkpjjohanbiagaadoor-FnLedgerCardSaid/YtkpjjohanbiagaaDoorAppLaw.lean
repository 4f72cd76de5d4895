/- AppendEntry, impl and spec. -/
import Derived.Test.YtkpjjohanbiagaaDoorAppend
import Derived.Test.YtkpjjohanbiagaaDoorStates
namespace Go.Proofs.YtkpjjohanbiagaaDoor
set_option linter.unusedVariables false
set_option linter.unusedSimpArgs false
open Go.RowKit

theorem broken_all {l : List Ent} : ∀ {i : Nat} {last prev : Int}, broken i last prev l < 0 → ∀ k e, l[k]? = some e → i + k < 30 ∧ (0 ≤ e.chain ∧ e.chain ≤ 65535) := by
  induction l with
  | nil => intro i last prev _ k e he; simp at he
  | cons a r ih =>
    intro i last prev hb k e he
    rw [broken] at hb
    split at hb
    · rename_i hok
      cases k with
      | zero =>
        simp at he; subst he
        simp [entOk] at hok
        have := chainI_bd last a.verb a.before a.after
        omega
      | succ k =>
        have := ih hb k e (by simpa using he)
        omega
    · omega
theorem ok_len {l : List Ent} (h : ledgerOk l = true) : l.length ≤ 30 := by
  have hb : broken 0 0 0 l < 0 := by simpa [ledgerOk] using h
  by_cases h0 : l.length = 0
  · omega
  · have := (broken_all hb (l.length - 1) _ (List.getElem?_eq_getElem (by omega))).1
    omega
theorem ok_last {l : List Ent} (h : ledgerOk l = true) : 0 ≤ lastC l ∧ lastC l ≤ 65535 := by
  have hb : broken 0 0 0 l < 0 := by simpa [ledgerOk] using h
  by_cases h0 : l = []
  · subst h0; simp [lastC]
  · have hp := List.length_pos_iff.2 h0
    rw [lastC_get h0, List.getD_eq_getElem?_getD, List.getElem?_eq_getElem (by omega : l.length - 1 < l.length)]
    exact (broken_all hb (l.length - 1) _ (List.getElem?_eq_getElem (by omega))).2
def lastA (l : List Ent) : Int := (l.getD (l.length - 1) default).after
def appE (l : List Ent) (s a b : ByteArray) : List Ent × Int :=
  if (ledgerOk l && verbOk s.data.toList) = false then ([], 1)
  else if l ≠ [] ∧ (lastA l != (crcB a : Int)) = true then ([], 6)
  else if 30 ≤ l.length then ([], 5)
  else (l ++ [nextE l s (crcB a) (crcB b)], 0)
theorem appE_no {l : List Ent} {s a b : ByteArray} (h : (ledgerOk l && verbOk s.data.toList) = false) : appE l s a b = ([], 1) := by simp [appE, h]
theorem appE_gap {l : List Ent} {s a b : ByteArray} (h : ledgerOk l = true) (h' : verbOk s.data.toList = true) (h0 : l ≠ []) (h1 : (lastA l != (crcB a : Int)) = true) : appE l s a b = ([], 6) := by
  rw [appE, if_neg (by simp [h, h']), if_pos ⟨h0, h1⟩]
theorem appE_full {l : List Ent} {s a b : ByteArray} (h : ledgerOk l = true) (h' : verbOk s.data.toList = true) (h1 : l = [] ∨ (lastA l != (crcB a : Int)) = false) (h2 : 30 ≤ l.length) : appE l s a b = ([], 5) := by
  rw [appE, if_neg (by simp [h, h']), if_neg (by rintro ⟨x, y⟩; rcases h1 with h1 | h1; exact x h1; rw [h1] at y; cases y), if_pos h2]
theorem appE_yes {l : List Ent} {s a b : ByteArray} (h : ledgerOk l = true) (h' : verbOk s.data.toList = true) (h1 : l = [] ∨ (lastA l != (crcB a : Int)) = false) (h2 : ¬ 30 ≤ l.length) : appE l s a b = (l ++ [nextE l s (crcB a) (crcB b)], 0) := by
  rw [appE, if_neg (by simp [h, h']), if_neg (by rintro ⟨x, y⟩; rcases h1 with h1 | h1; exact x h1; rw [h1] at y; cases y), if_neg h2]

theorem appE_len (l : List Ent) (s a b : ByteArray) : (appE l s a b).1.length ≤ l.length + 1 := by
  unfold appE; split; simp; split; simp; split; simp; simp

abbrev AppL (w : World) (r : List Ent × Int) (e : Ending) (w' : World) : Prop := Rep.retI REntryS w r.1 r.2 e w'
theorem appL_nil {w w' : World} {r : List Ent × Int} {c : Int} (hr : r = ([], c)) (hb : Below w.heap.size w w') : AppL w r (.returned (.tuple #[.slice none 0 0, .int .i64 c])) w' := by
  subst hr; exact ⟨_, rfl, ⟨OwnL.of_nil, fun g hg => by cases hg⟩, hb⟩
theorem appL_own {w w' : World} {B : Nat} {v : Value} {r : List Ent × Int} {l : List Ent} {c : Int} (hr : r = (l, c)) (h : EntL B w' v l) (hB : w.heap.size ≤ B) (hb : Below w.heap.size w w') : AppL w r (.returned (.tuple #[v, .int .i64 c])) w' := by
  subst hr; exact ⟨_, rfl, ⟨h.base hB, fun g hg => (h.lt g hg).2⟩, hb⟩
def nilV (_ : World) : Value := .slice none 0 0
def newV (w : World) : Value := .slice (some ⟨w.heap.size, 0, none⟩) 0 0
theorem nilV_app {w w' : World} {r : List Ent × Int} {c : Int} (hr : r = ([], c)) (hb : Below w.heap.size w w') : AppL w r (.returned (.tuple #[nilV w', .int .i64 c])) w' := appL_nil hr hb
theorem newV_app {w w' : World} {r : List Ent × Int} {c : Int} (hr : r = ([], c)) (hb : Below w.heap.size w w') : AppL w r (.returned (.tuple #[newV w', .int .i64 c])) (w'.alloc (.cells #[] 48)) :=
  appL_own hr (OwnL.of_empty w' (Nat.le_refl _)) hb.size (hb.alloc hb.size _)
theorem crcB_bd (s : ByteArray) : (0 : Int) ≤ (crcB s : Int) ∧ (crcB s : Int) ≤ 65535 := by have := crcB_lt s; omega
theorem append_i0 (B : Nat) (v : Value) (l : List Ent) (s : ByteArray) (b a : Int) (w : World) (h : EntL B w v l) (hB : B ≤ w.heap.size) (hn : l.length ≤ 4096) (hl : 0 ≤ lastC l ∧ lastC l ≤ 65535) (hs : s.size ≤ 1048576) (hb : 0 ≤ b ∧ b ≤ 65535) (ha : 0 ≤ a ∧ a ≤ 65535) :
    Calls Tryd.prog 48 #[v, entV s b a 0] w fun e w' => AppR B w v l (nextE l s b a) e w' := append_i B v l s b a 0 w h hB hn hl hs hb ha
theorem app_tail {W w2 w3 w4 : World} {B : Nat} {v v' : Value} {l l' : List Ent} (hb : Below W.heap.size W w2) (h : EntL B w2 v l) (hB : W.heap.size ≤ B) (hk : w2.grownBy w3 v.ownBlock) (h4 : Below w3.heap.size w3 w4) : Below W.heap.size W w4 :=
  (own_grown_below h hb hk hB hb.size).trans (h4.mono (Nat.le_trans hb.size hk.size))
set_option maxHeartbeats 4000000 in
theorem appendE_i (B : Nat) (v : Value) (l : List Ent) (s a b : ByteArray) (w : World) (hn : l.length ≤ 1048576) (h : EntL B w v l) (hv : ∀ e ∈ l, e.verb.size ≤ 1048576) (hs : s.size ≤ 1048576) (ha : a.size ≤ 1048576) (hb : b.size ≤ 1048576) :
    Calls Tryd.prog 18 #[v, .string s, .string a, .string b] w fun e w' => AppL w (appE l s a b) e w' := by
  obtain ⟨A, c, hvv, hA⟩ := h.shape
  cases hok : ledgerOk l
  · have HF := Lib.hid (appE_no (l := l) (s := s) (a := a) (b := b) (by simp [hok]))
    subst hvv
    go_enter Tryd.func18, Tryd.ntmps18
    go_wp2_with (first | (go_at_call 20; refine (valid_i B _ _ _ hn h hv).mono ?_; rintro e w1 ⟨rfl, hb1⟩) | (go_at_call 46; refine (verb_i s _ hs).mono ?_; rintro e w2 ⟨rfl, rfl⟩))
    have hz1 := hb1.size
    exact bodyPost_ret (v := .tuple #[nilV w1, .int .i64 1]) (by simp [nilV, results, Tryd.results18, go_sem]) rfl (nilV_app HF.out (by repeat (first | exact Below.refl _ _ | refine Below.alloc ?_ (by first | omega | (simp; done) | (simp; omega)) _ | apply Below.drew | apply below_drewN | refine Below.setCell ?_ (by first | omega | (simp; done) | (simp; omega)) _ | refine Below.trans ?_ (Below.mono (by assumption) (by first | omega | (simp; done) | (simp; omega))))))
  cases hvb : verbOk s.data.toList
  · have HF := Lib.hid (appE_no (l := l) (s := s) (a := a) (b := b) (by simp [hvb]))
    subst hvv
    go_enter Tryd.func18, Tryd.ntmps18
    go_wp2_with (first | (go_at_call 20; refine (valid_i B _ _ _ hn h hv).mono ?_; rintro e w1 ⟨rfl, hb1⟩) | (go_at_call 46; refine (verb_i s _ hs).mono ?_; rintro e w2 ⟨rfl, rfl⟩))
    have hz1 := hb1.size
    exact bodyPost_ret (v := .tuple #[nilV w1, .int .i64 1]) (by simp [nilV, results, Tryd.results18, go_sem]) rfl (nilV_app HF.out (by repeat (first | exact Below.refl _ _ | refine Below.alloc ?_ (by first | omega | (simp; done) | (simp; omega)) _ | apply Below.drew | apply below_drewN | refine Below.setCell ?_ (by first | omega | (simp; done) | (simp; omega)) _ | refine Below.trans ?_ (Below.mono (by assumption) (by first | omega | (simp; done) | (simp; omega))))))
  have hlen := ok_len hok
  by_cases hl0 : l = []
  · subst hl0
    subst hvv
    have HF := Lib.hid (appE_yes (l := []) (a := a) (b := b) hok hvb (.inl rfl) (by simp))
    go_enter Tryd.func18, Tryd.ntmps18
    go_wp2_with (first | (go_at_call 20; refine (valid_i B _ _ _ hn h hv).mono ?_; rintro e w1 ⟨rfl, hb1⟩) | (go_at_call 46; refine (verb_i s _ hs).mono ?_; rintro e w2 ⟨rfl, rfl⟩))
    refine wp_region_wb (by kernel_rfl) (by kernel_rfl) ?_
    repeat (go_big_quiet_step ((go_at_call 47; exact Wb.same (check_i _ _ (by omega)))))
    refine wpQuiet_nil ?_; intro w3 hw'; obtain ⟨⟨wq, hb3⟩, hw''⟩ := hw'; subst hw''; have hz1 := hb1.size; have hz3 := hb3.size
    have h2 : EntL B w3 (.slice A 0 c) [] := (OwnL.below (show EntL B w (.slice A 0 c) [] from h) hb1).below hb3
    go_wp2_with (go_at_call 49; refine (clone_ent B _ [] w3 h2 (by simp)).mono ?_; rintro e w4 ⟨v4, rfl, how4, hb4⟩)
    have hz4 := hb4.size
    go_wp2_with (first | (go_at_call 47; refine (check_i _ _ (by omega)).mono ?_; rintro e w5 ⟨rfl, rfl⟩) | (go_at_call 48; refine (append_i0 w3.heap.size v4 [] s (crcB a : Int) (crcB b : Int) _ how4 hz4 (by simp) (by simp [lastC]) hs (crcB_bd a) (crcB_bd b)).mono ?_; rintro e w5 ⟨v5, rfl, how5, hg5⟩))
    exact bodyPost_ret (v := .tuple #[v5, .int .i64 0]) (by simp [results, Tryd.results18, go_sem]; done) rfl (appL_own HF.out how5 (by omega) (own_grown_below how4 (by repeat (first | exact Below.refl _ _ | refine Below.alloc ?_ (by first | omega | (simp; done) | (simp; omega)) _ | apply Below.drew | apply below_drewN | refine Below.setCell ?_ (by first | omega | (simp; done) | (simp; omega)) _ | refine Below.trans ?_ (Below.mono (by assumption) (by first | omega | (simp; done) | (simp; omega))))) hg5 (by omega) (by omega)))
  · have hp : 0 < l.length := List.length_pos_iff.2 hl0
    obtain ⟨g, rfl, _, hg⟩ := hA.resolve_left hl0
    clear hA
    subst hvv
    have hel : l[l.length - 1]? = some (l.getD (l.length - 1) default) := by rw [List.getD_eq_getElem?_getD, List.getElem?_eq_getElem (by omega : l.length - 1 < l.length)]; rfl
    have c1 : w.cell? ⟨g, (l.length - 1) * 4 + 2, none⟩ = some (.int .i64 (lastA l)) := OwnL.cell Ent.len h hel (j := 2) rfl
    clear hel
    generalize hla : lastA l = la at c1
    cases hc : (la != (crcB a : Int))
    · by_cases h30 : 30 ≤ l.length
      · have HF := Lib.hid (appE_full (l := l) (b := b) hok hvb (.inr (hla ▸ hc)) h30)
        have h30' : ((l.length : Int) == 30) = true := by simp; omega
        have h31 : (decide ((30 : Int) ≤ (l.length : Int))) = true := by simp; omega
        go_enter Tryd.func18, Tryd.ntmps18
        go_wp2_with (first | (go_at_call 20; refine (valid_i B _ _ _ hn h hv).mono ?_; rintro e w1 ⟨rfl, hb1⟩) | (go_at_call 46; refine (verb_i s _ hs).mono ?_; rintro e w2 ⟨rfl, rfl⟩))
        have d1 : ∀ x : Wb w1, x.1.cell? ⟨g, (l.length - 1) * 4 + 2, none⟩ = some (.int .i64 la) := fun x => Wb.cell ((hb1.cell (p := ⟨g, _, none⟩) hg).trans c1) x
        refine wp_region_wb (by kernel_rfl) (by kernel_rfl) ?_
        repeat (go_big_quiet_step ((go_at_call 47; exact Wb.same (check_i _ _ (by omega)))))
        refine wpQuiet_nil ?_; intro w3 hw'; obtain ⟨⟨wq, hb3⟩, hw''⟩ := hw'; subst hw''; have hz1 := hb1.size; have hz3 := hb3.size
        clear d1
        go_wp2_with (fail)
        exact bodyPost_ret (v := .tuple #[nilV w3, .int .i64 5]) (by simp [nilV, results, Tryd.results18, go_sem]) rfl (nilV_app HF.out (by repeat (first | exact Below.refl _ _ | refine Below.alloc ?_ (by first | omega | (simp; done) | (simp; omega)) _ | apply Below.drew | apply below_drewN | refine Below.setCell ?_ (by first | omega | (simp; done) | (simp; omega)) _ | refine Below.trans ?_ (Below.mono (by assumption) (by first | omega | (simp; done) | (simp; omega))))))
      · have HF := Lib.hid (appE_yes (l := l) (b := b) hok hvb (.inr (hla ▸ hc)) h30)
        have h30' : ((l.length : Int) == 30) = false := by simp; omega
        have h31 : (decide ((30 : Int) ≤ (l.length : Int))) = false := by simp; omega
        go_enter Tryd.func18, Tryd.ntmps18
        go_wp2_with (first | (go_at_call 20; refine (valid_i B _ _ _ hn h hv).mono ?_; rintro e w1 ⟨rfl, hb1⟩) | (go_at_call 46; refine (verb_i s _ hs).mono ?_; rintro e w2 ⟨rfl, rfl⟩))
        have d1 : ∀ x : Wb w1, x.1.cell? ⟨g, (l.length - 1) * 4 + 2, none⟩ = some (.int .i64 la) := fun x => Wb.cell ((hb1.cell (p := ⟨g, _, none⟩) hg).trans c1) x
        refine wp_region_wb (by kernel_rfl) (by kernel_rfl) ?_
        repeat (go_big_quiet_step ((go_at_call 47; exact Wb.same (check_i _ _ (by omega)))))
        refine wpQuiet_nil ?_; intro w3 hw'; obtain ⟨⟨wq, hb3⟩, hw''⟩ := hw'; subst hw''; have hz1 := hb1.size; have hz3 := hb3.size
        clear d1
        have h2 : EntL B w3 (.slice (some ⟨g, 0, none⟩) l.length c) l := (OwnL.below h hb1).below hb3
        go_wp2_with (go_at_call 49; refine (clone_ent B _ l w3 h2 (by omega)).mono ?_; rintro e w4 ⟨v4, rfl, how4, hb4⟩)
        have hz4 := hb4.size
        go_wp2_with (first | (go_at_call 47; refine (check_i _ _ (by omega)).mono ?_; rintro e w5 ⟨rfl, rfl⟩) | (go_at_call 48; refine (append_i0 w3.heap.size v4 l s (crcB a : Int) (crcB b : Int) _ how4 hz4 (by omega) (ok_last hok) hs (crcB_bd a) (crcB_bd b)).mono ?_; rintro e w5 ⟨v5, rfl, how5, hg5⟩))
        exact bodyPost_ret (v := .tuple #[v5, .int .i64 0]) (by simp [results, Tryd.results18, go_sem]; done) rfl (appL_own HF.out how5 (by omega) (own_grown_below how4 (by repeat (first | exact Below.refl _ _ | refine Below.alloc ?_ (by first | omega | (simp; done) | (simp; omega)) _ | apply Below.drew | apply below_drewN | refine Below.setCell ?_ (by first | omega | (simp; done) | (simp; omega)) _ | refine Below.trans ?_ (Below.mono (by assumption) (by first | omega | (simp; done) | (simp; omega))))) hg5 (by omega) (by omega)))
    · have HF := Lib.hid (appE_gap (l := l) (b := b) hok hvb hl0 (hla ▸ hc))
      go_enter Tryd.func18, Tryd.ntmps18
      go_wp2_with (first | (go_at_call 20; refine (valid_i B _ _ _ hn h hv).mono ?_; rintro e w1 ⟨rfl, hb1⟩) | (go_at_call 46; refine (verb_i s _ hs).mono ?_; rintro e w2 ⟨rfl, rfl⟩))
      have d1 : ∀ x : Wb w1, x.1.cell? ⟨g, (l.length - 1) * 4 + 2, none⟩ = some (.int .i64 la) := fun x => Wb.cell ((hb1.cell (p := ⟨g, _, none⟩) hg).trans c1) x
      refine wp_region_wb (by kernel_rfl) (by kernel_rfl) ?_
      repeat (go_big_quiet_step ((go_at_call 47; exact Wb.same (check_i _ _ (by omega)))))
      refine wpQuiet_nil ?_; intro w3 hw'; obtain ⟨⟨wq, hb3⟩, hw''⟩ := hw'; subst hw''; have hz1 := hb1.size; have hz3 := hb3.size
      clear d1
      go_wp2_with (fail)
      exact bodyPost_ret (v := .tuple #[nilV w3, .int .i64 6]) (by simp [nilV, results, Tryd.results18, go_sem]) rfl (nilV_app HF.out (by repeat (first | exact Below.refl _ _ | refine Below.alloc ?_ (by first | omega | (simp; done) | (simp; omega)) _ | apply Below.drew | apply below_drewN | refine Below.setCell ?_ (by first | omega | (simp; done) | (simp; omega)) _ | refine Below.trans ?_ (Below.mono (by assumption) (by first | omega | (simp; done) | (simp; omega))))))
end Go.Proofs.YtkpjjohanbiagaaDoor
