/- The laws' own helpers over merges: copies, equality. -/
import Derived.Test.YtignjjkldmninaaHMerge
namespace Go.Proofs.Ytignjjkldmninaa
set_option linter.unusedVariables false
open Go.RowKit
def setL (w : World) (b o : Nat) : List Value → World
  | [] => w
  | u :: us => setL (w.setCell ⟨b, o, none⟩ u) b (o + 1) us
theorem setL_other (us : List Value) : ∀ (w : World) (b o x : Nat), x < o → (setL w b o us).cell? ⟨b, x, none⟩ = w.cell? ⟨b, x, none⟩ := by
  induction us with
  | nil => intro w b o x _; rfl
  | cons u us ih => intro w b o x h; exact (ih _ b (o + 1) x (by omega)).trans (World.cell?_setCell_other w _ _ u (ne_off (by omega)))
theorem setL_block (us : List Value) : ∀ (w : World) (b o g x : Nat), g ≠ b → (setL w b o us).cell? ⟨g, x, none⟩ = w.cell? ⟨g, x, none⟩ := by
  induction us with
  | nil => intro w b o g x _; rfl
  | cons u us ih => intro w b o g x h; exact (ih _ b (o + 1) g x h).trans (World.cell?_setCell_other w _ _ u (fun e => by injection e with e1; exact h e1.symm))
theorem setL_at (us : List Value) : ∀ (w : World) (b o : Nat), (∀ i, i < us.length → ∃ t, w.cell? ⟨b, o + i, none⟩ = some t) → ∀ (i : Nat) (u : Value), us[i]? = some u → (setL w b o us).cell? ⟨b, o + i, none⟩ = some u := by
  induction us with
  | nil => intro w b o _ i u h; simp at h
  | cons v us ih =>
    intro w b o h i u hu
    cases i with
    | zero =>
      simp at hu
      subst hu
      obtain ⟨t, ht⟩ := h 0 (by simp)
      exact (setL_other us _ b (o + 1) o (by omega)).trans (World.cell?_setCell_same _ _ _ ht)
    | succ i =>
      have := ih (w.setCell ⟨b, o, none⟩ v) b (o + 1) (fun j hj => by
        obtain ⟨t, ht⟩ := h (j + 1) (by simpa using hj)
        rw [show o + 1 + j = o + (j + 1) from by omega]; exact ⟨t, (World.cell?_setCell_other w _ _ v (ne_off (by omega))).trans ht⟩) i u (by simpa using hu)
      rw [← this, show o + (i + 1) = o + 1 + i from by omega]
      rfl
theorem setL_far {α : Type} {f : α → List Value} {z : Nat} {e : TypeId} {B g : Nat} {v : Value} {l : List α} (hg : g < B) (us : List Value) : ∀ {w : World} {o : Nat}, OwnL f z e B w v l → OwnL f z e B (setL w g o us) v l := by
  induction us with
  | nil => intro w o h; exact h
  | cons u us ih => intro w o h; exact ih (far_set h hg)
theorem setL_below {B b : Nat} {w0 : World} (hb : B ≤ b) (us : List Value) : ∀ {w : World} {o : Nat}, Below B w0 w → Below B w0 (setL w b o us) := by
  induction us with
  | nil => intro w o h; exact h
  | cons u us ih => intro w o h; exact ih (Below.setCell h hb u)
theorem setL_size (us : List Value) : ∀ (w : World) (b o : Nat), (setL w b o us).heap.size = w.heap.size := by
  induction us with
  | nil => intro w b o; rfl
  | cons u us ih => intro w b o; exact (ih _ b (o + 1)).trans (by simp [World.setCell])
theorem setL_past (us : List Value) : ∀ (w : World) (b o x : Nat), o + us.length ≤ x → (setL w b o us).cell? ⟨b, x, none⟩ = w.cell? ⟨b, x, none⟩ := by
  induction us with
  | nil => intro w b o x _; rfl
  | cons u us ih => intro w b o x h; (simp at h); exact (ih _ b (o + 1) x (by omega)).trans (World.cell?_setCell_other w _ _ u (ne_off (by omega)))
/-- the cells of a block begin with these -/
def Row (w : World) (b : Nat) (us : List Value) : Prop := ∀ j u, us[j]? = some u → w.cell? ⟨b, j, none⟩ = some u
theorem Row.below {w w' : World} {b : Nat} {us : List Value} (h : Row w b us) (hb : Below w.heap.size w w') (hl : b < w.heap.size) : Row w' b us := fun j u hu => (hb.cell (p := ⟨b, j, none⟩) hl).trans (h j u hu)
theorem Row.belowK {w w' : World} {b K : Nat} {us : List Value} (h : Row w b us) (hb : Below K w w') (hl : b < K) : Row w' b us := fun j u hu => (hb.cell (p := ⟨b, j, none⟩) hl).trans (h j u hu)
theorem frozen_belowK {w w' : World} {b K : Nat} {v : Bool} (h : ∀ o, w.frozen? ⟨b, o, none⟩ = v) (hb : Below K w w') (hl : b < K) : ∀ o, w'.frozen? ⟨b, o, none⟩ = v := fun o => (hb.frozen (p := ⟨b, o, none⟩) hl).trans (h o)
theorem Row.set {w : World} {b : Nat} {us : List Value} (h : Row w b us) {o : Nat} (v : Value) (ho : o < us.length) : Row (w.setCell ⟨b, o, none⟩ v) b (us.set o v) := by
  intro j u hu
  by_cases hj : o = j
  · subst hj
    rw [List.getElem?_set_self ho] at hu
    injection hu with hu
    subst hu
    exact World.cell?_setCell_same _ _ _ (h o _ (List.getElem?_eq_getElem ho))
  · rw [List.getElem?_set_ne hj] at hu
    exact (World.cell?_setCell_other w _ _ v (ne_off hj)).trans (h j u hu)
theorem Row.set_other {w : World} {b g : Nat} {us : List Value} (h : Row w b us) {o : Nat} (v : Value) (hg : b ≠ g) : Row (w.setCell ⟨g, o, none⟩ v) b us := fun j u hu => (World.cell?_setCell_other w _ _ v (fun e => by injection e with e1; exact hg e1.symm)).trans (h j u hu)
theorem Row.setL_other {w : World} {b g o : Nat} {us vs : List Value} (h : Row w b us) (hg : b ≠ g) : Row (setL w g o vs) b us := fun j u hu => (setL_block vs w g o b j hg).trans (h j u hu)
theorem Row.setL {w : World} {b : Nat} {us : List Value} (h : Row w b us) (vs : List Value) (hl : vs.length ≤ us.length) : Row (setL w b 0 vs) b (vs ++ us.drop vs.length) := by
  intro j u hu
  by_cases hj : j < vs.length
  · rw [List.getElem?_append_left hj] at hu
    have := setL_at vs w b 0 (fun i hi => ⟨us[i]'(by omega), by rw [Nat.zero_add]; exact h i _ (List.getElem?_eq_getElem (by omega))⟩) j u hu
    rwa [Nat.zero_add] at this
  · rw [List.getElem?_append_right (by omega), List.getElem?_drop, show vs.length + (j - vs.length) = j from by omega] at hu
    exact (setL_past vs w b 0 j (by omega)).trans (h j u hu)
theorem Row.alloc (w : World) (cs : Array Value) (e : TypeId) : Row (w.alloc (.cells cs e)) w.heap.size cs.toList := by
  intro j u hu
  simp [go_sem]
  simpa using hu
theorem setCell_frozen (w : World) (p q : Addr) (u : Value) : (w.setCell p u).frozen? q = w.frozen? q := by simp [go_sem]
theorem setL_frozen (us : List Value) : ∀ (w : World) (b o : Nat) (q : Addr), (setL w b o us).frozen? q = w.frozen? q := by
  induction us with
  | nil => intro w b o q; rfl
  | cons u us ih => intro w b o q; exact (ih _ b (o + 1) q).trans (setCell_frozen w _ q u)
theorem frozen_below {w w' : World} {b : Nat} {v : Bool} (h : ∀ o, w.frozen? ⟨b, o, none⟩ = v) (hb : Below w.heap.size w w') (hl : b < w.heap.size) : ∀ o, w'.frozen? ⟨b, o, none⟩ = v := fun o => ((bcell hb).2 b o hl).trans (h o)
set_option maxRecDepth 20000 in
set_option maxHeartbeats 4000000 in
theorem toMrg (m : Mrg) (bv fv av : Value) (w : World) (h : MrgIn w m bv fv av) (hd : m.d.secs.length ≤ 1048576) (hf : m.fr.length ≤ 1048576) (ha : m.ag.length ≤ 1048576) :
    Calls Try.prog 23 #[mrgV m bv fv av] w fun e w' => ∃ A c A1 c1 A2 c2, e = .returned (mrgV m (.slice A m.d.secs.length c) (.slice A1 m.fr.length c1) (.slice A2 m.ag.length c2)) ∧ MrgOwn w.heap.size w' m (.slice A m.d.secs.length c) (.slice A1 m.fr.length c1) (.slice A2 m.ag.length c2) ∧ Below w.heap.size w w' := by
  have HH := Lib.hid h
  obtain ⟨⟨⟨A, c, hv, _, _⟩, _⟩, ⟨A1, c1, hv1, _, _⟩, ⟨A2, c2, hv2, _, _⟩⟩ := h
  subst hv
  subst hv1
  subst hv2
  have HB : Below w.heap.size w (((w.alloc (.cells #[.int .i64 m.d.cyl, .int .i64 m.d.heads, .int .i64 m.d.per, .int .i64 m.d.size, .slice A m.d.secs.length c, .slice A1 m.fr.length c1, .slice A2 m.ag.length c2] 34)).alloc (.cells #[.int .i64 0, .int .i64 0, .int .i64 0, .int .i64 0, .slice none 0 0, .slice none 0 0, .slice none 0 0] 41)).alloc (.cells #[.int .i64 0, .int .i64 0, .int .i64 0, .int .i64 0, .slice none 0 0, .slice none 0 0, .slice none 0 0] 41)) := (by repeat (first | exact Below.refl _ _ | refine Below.alloc ?_ (by first | omega | (simp; done) | (simp; omega)) _ | apply Below.drew | apply below_drewN | refine Below.setCell ?_ (by first | omega | (simp; done) | (simp; omega)) _ | refine Below.trans ?_ (Below.mono (by assumption) (by first | omega | (simp; done) | (simp; omega)))))
  have HD := Lib.hid (toDsc m.d (.slice A m.d.secs.length c) (((w.alloc (.cells #[.int .i64 m.d.cyl, .int .i64 m.d.heads, .int .i64 m.d.per, .int .i64 m.d.size, .slice A m.d.secs.length c, .slice A1 m.fr.length c1, .slice A2 m.ag.length c2] 34)).alloc (.cells #[.int .i64 0, .int .i64 0, .int .i64 0, .int .i64 0, .slice none 0 0, .slice none 0 0, .slice none 0 0] 41)).alloc (.cells #[.int .i64 0, .int .i64 0, .int .i64 0, .int .i64 0, .slice none 0 0, .slice none 0 0, .slice none 0 0] 41)) (HH.out.below HB).d hd)
  have HF := Lib.hid (fun (w' : World) (hb : Below w.heap.size w w') => toInt64S m.fr (.slice A1 m.fr.length c1) w' (HH.out.below hb).fr hf)
  have HA := Lib.hid (fun (w' : World) (hb : Below w.heap.size w w') => toInt64S m.ag (.slice A2 m.ag.length c2) w' (HH.out.below hb).ag ha)
  go_enter Try.func23, Try.ntmps23
  go_wp2_with (fail)
  refine HD.out.mono ?_; rintro e w1 ⟨A', c', rfl, o1, hb1⟩
  obtain ⟨hc1, hf1⟩ := bcell hb1
  have z1 : w.heap.size + 3 ≤ w1.heap.size := by have := hb1.size; (try simp at this); omega
  have B1 : Below w.heap.size w w1 := HB.trans (hb1.mono (by simp; omega))
  have O1 : SecOwn (w.heap.size + 3) w1 (.slice A' m.d.secs.length c') m.d.secs := by simpa using o1
  have H3 : ((((w.alloc (.cells #[.int .i64 m.d.cyl, .int .i64 m.d.heads, .int .i64 m.d.per, .int .i64 m.d.size, .slice A m.d.secs.length c, .slice A1 m.fr.length c1, .slice A2 m.ag.length c2] 34)).alloc (.cells #[.int .i64 0, .int .i64 0, .int .i64 0, .int .i64 0, .slice none 0 0, .slice none 0 0, .slice none 0 0] 41)).alloc (.cells #[.int .i64 0, .int .i64 0, .int .i64 0, .int .i64 0, .slice none 0 0, .slice none 0 0, .slice none 0 0] 41))).heap.size = w.heap.size + 3 := by simp
  have R1 : Row w1 (w.heap.size + 1 + 1) [.int .i64 0, .int .i64 0, .int .i64 0, .int .i64 0, .slice none 0 0, .slice none 0 0, .slice none 0 0] := by
    refine Row.below ?_ hb1 (by rw [H3]; omega)
    have := Row.alloc ((w.alloc (.cells #[.int .i64 m.d.cyl, .int .i64 m.d.heads, .int .i64 m.d.per, .int .i64 m.d.size, .slice A m.d.secs.length c, .slice A1 m.fr.length c1, .slice A2 m.ag.length c2] 34)).alloc (.cells #[.int .i64 0, .int .i64 0, .int .i64 0, .int .i64 0, .slice none 0 0, .slice none 0 0, .slice none 0 0] 41)) #[.int .i64 0, .int .i64 0, .int .i64 0, .int .i64 0, .slice none 0 0, .slice none 0 0, .slice none 0 0] 41
    simpa using this
  have Z1 : Row w1 (w.heap.size + 1) [.int .i64 0, .int .i64 0, .int .i64 0, .int .i64 0, .slice none 0 0, .slice none 0 0, .slice none 0 0] := by
    intro j u hu
    have hj : j < 7 := by have := (List.getElem?_eq_some_iff.1 hu).1; simpa using this
    rw [hc1 (w.heap.size + 1) j (by simp; try omega)]
    match j, hj, hu with
    | 0, _, hu => (simp at hu; subst hu; simp [go_sem])
    | 1, _, hu => (simp at hu; subst hu; simp [go_sem])
    | 2, _, hu => (simp at hu; subst hu; simp [go_sem])
    | 3, _, hu => (simp at hu; subst hu; simp [go_sem])
    | 4, _, hu => (simp at hu; subst hu; simp [go_sem])
    | 5, _, hu => (simp at hu; subst hu; simp [go_sem])
    | 6, _, hu => (simp at hu; subst hu; simp [go_sem])
  have p5 : w1.cell? ⟨w.heap.size, 5, none⟩ = some (.slice A1 m.fr.length c1) := by rw [hc1 w.heap.size 5 (by simp; try omega)]; simp [go_sem]
  have p6 : w1.cell? ⟨w.heap.size, 6, none⟩ = some (.slice A2 m.ag.length c2) := by rw [hc1 w.heap.size 6 (by simp; try omega)]; simp [go_sem]
  have F1 : ∀ o, w1.frozen? ⟨w.heap.size + 1, o, none⟩ = false := by intro o; rw [hf1 _ _ (by simp; try omega)]; simp [go_sem]
  have F2 : ∀ o, w1.frozen? ⟨w.heap.size + 1 + 1, o, none⟩ = false := by intro o; rw [hf1 _ _ (by simp; try omega)]; simp [go_sem]
  clear hb1 o1
  go_wp2_with (fail)
  let us := [Value.int .i64 m.d.cyl, .int .i64 m.d.heads, .int .i64 m.d.per, .int .i64 m.d.size, .slice A' m.d.secs.length c']
  have B2 : Below w.heap.size w (setL w1 (w.heap.size + 1 + 1) 0 us) := setL_below (by omega) us B1
  have O2 := setL_far (g := w.heap.size + 1 + 1) (o := 0) (by omega) us O1
  have R2 := R1.setL us (by simp [us])
  have Z2 := Z1.setL_other (g := w.heap.size + 1 + 1) (o := 0) (vs := us) (by omega)
  have q5 := (setL_block us w1 (w.heap.size + 1 + 1) 0 w.heap.size 5 (by omega)).trans p5
  have q6 := (setL_block us w1 (w.heap.size + 1 + 1) 0 w.heap.size 6 (by omega)).trans p6
  have z2 : w.heap.size + 3 ≤ (setL w1 (w.heap.size + 1 + 1) 0 us).heap.size := by rw [setL_size]; exact z1
  have F1b : ∀ o, (setL w1 (w.heap.size + 1 + 1) 0 us).frozen? ⟨w.heap.size + 1, o, none⟩ = false := fun o => (setL_frozen us w1 _ _ _).trans (F1 o)
  have F2b : ∀ o, (setL w1 (w.heap.size + 1 + 1) 0 us).frozen? ⟨w.heap.size + 1 + 1, o, none⟩ = false := fun o => (setL_frozen us w1 _ _ _).trans (F2 o)
  clear R1 Z1 p5 p6 F1 F2 z1 O1 B1
  clear hc1 hf1
  show Calls _ _ _ (setL w1 (w.heap.size + 1 + 1) 0 us) _
  generalize (setL w1 (w.heap.size + 1 + 1) 0 us) = W2 at *
  refine (HF.out W2 B2).mono ?_; rintro e w3 ⟨v3, rfl, o3, hb3⟩
  have z3 : w.heap.size + 3 ≤ w3.heap.size := Nat.le_trans z2 hb3.size
  have B3 : Below w.heap.size w w3 := B2.trans (hb3.mono (by omega))
  have O3 := OwnL.below O2 hb3
  have I3 : Int64L (w.heap.size + 3) w3 v3 m.fr := OwnL.base o3 (by omega)
  have R3 := R2.below hb3 (by omega)
  have Z3 := Z2.below hb3 (by omega)
  have p6 := (hb3.cell (p := ⟨w.heap.size, 6, none⟩) (by show w.heap.size < _; omega)).trans q6
  have F1 := frozen_below F1b hb3 (by omega)
  have F2 := frozen_below F2b hb3 (by omega)
  have c5 := R3 5 _ rfl
  obtain ⟨A3, c3, rfl, _⟩ := OwnL.shape I3
  clear R2 Z2 q5 q6 F1b F2b z2 O2 B2 o3 hb3
  go_wp2_with (fail)
  have B4 : Below w.heap.size w (w3.setCell ⟨w.heap.size + 1 + 1, 5, none⟩ (.slice A3 m.fr.length c3)) := Below.setCell B3 (by show w.heap.size ≤ w.heap.size + 1 + 1; omega) _
  have O4 := far_set (g := w.heap.size + 1 + 1) (o := 5) (u := .slice A3 m.fr.length c3) O3 (by omega)
  have I4 := far_set (g := w.heap.size + 1 + 1) (o := 5) (u := .slice A3 m.fr.length c3) I3 (by omega)
  have R4 := R3.set (o := 5) (.slice A3 m.fr.length c3) (by simp [us])
  have Z4 := Z3.set_other (g := w.heap.size + 1 + 1) (o := 5) (.slice A3 m.fr.length c3) (by omega)
  have F1b := fun o => (setCell_frozen w3 ⟨w.heap.size + 1 + 1, 5, none⟩ _ (.slice A3 m.fr.length c3)).trans (F1 o)
  have F2b := fun o => (setCell_frozen w3 ⟨w.heap.size + 1 + 1, 5, none⟩ _ (.slice A3 m.fr.length c3)).trans (F2 o)
  have z4 : w.heap.size + 3 ≤ (w3.setCell ⟨w.heap.size + 1 + 1, 5, none⟩ (.slice A3 m.fr.length c3)).heap.size := by rw [show (w3.setCell ⟨w.heap.size + 1 + 1, 5, none⟩ (.slice A3 m.fr.length c3)).heap.size = w3.heap.size from setL_size [_] w3 _ _]; exact z3
  clear R3 Z3 p6 F1 F2 O3 I3 B3 c5
  generalize (w3.setCell ⟨w.heap.size + 1 + 1, 5, none⟩ (.slice A3 m.fr.length c3)) = W4 at *
  refine (HA.out W4 B4).mono ?_; rintro e w5 ⟨v5, rfl, o5, hb5⟩
  have z5 : w.heap.size + 3 ≤ w5.heap.size := Nat.le_trans z4 hb5.size
  have B5 : Below w.heap.size w w5 := B4.trans (hb5.mono (by omega))
  have O5 := OwnL.below O4 hb5
  have I5 := OwnL.below I4 hb5
  have J5 : Int64L (w.heap.size + 3) w5 v5 m.ag := OwnL.base o5 (by omega)
  have R5 := R4.below hb5 (by omega)
  have Z5 := Z4.below hb5 (by omega)
  have F1 := frozen_below F1b hb5 (by omega)
  have F2 := frozen_below F2b hb5 (by omega)
  obtain ⟨A5, c5, rfl, _⟩ := OwnL.shape J5
  clear R4 Z4 F1b F2b O4 I4 B4 o5 hb5
  have k0 := R5 0 _ rfl
  have k1 := R5 1 _ rfl
  have k2 := R5 2 _ rfl
  have k3 := R5 3 _ rfl
  have k4 := R5 4 _ rfl
  have k5 := R5 5 _ rfl
  have k6 := R5 6 _ rfl
  have y0 := Z5 0 _ rfl
  have y1 := Z5 1 _ rfl
  have y2 := Z5 2 _ rfl
  have y3 := Z5 3 _ rfl
  have y4 := Z5 4 _ rfl
  have y5 := Z5 5 _ rfl
  have y6 := Z5 6 _ rfl
  go_wp2
  have R6 := R5.set (o := 6) (.slice A5 m.ag.length c5) (by simp [us])
  have Z6 := Z5.set_other (g := w.heap.size + 1 + 1) (o := 6) (.slice A5 m.ag.length c5) (by omega)
  let us7 := [Value.int .i64 m.d.cyl, .int .i64 m.d.heads, .int .i64 m.d.per, .int .i64 m.d.size, .slice A' m.d.secs.length c', .slice A3 m.fr.length c3, .slice A5 m.ag.length c5]
  have B7 : Below w.heap.size w (setL (w5.setCell ⟨w.heap.size + 1 + 1, 6, none⟩ (.slice A5 m.ag.length c5)) (w.heap.size + 1) 0 us7) := setL_below (by omega) us7 (Below.setCell B5 (by show w.heap.size ≤ w.heap.size + 1 + 1; omega) _)
  have Z7 := Z6.setL us7 (by simp [us7])
  have O7 := setL_far (g := w.heap.size + 1) (o := 0) (by omega) us7 (far_set (g := w.heap.size + 1 + 1) (o := 6) (u := .slice A5 m.ag.length c5) O5 (by omega))
  have I7 := setL_far (g := w.heap.size + 1) (o := 0) (by omega) us7 (far_set (g := w.heap.size + 1 + 1) (o := 6) (u := .slice A5 m.ag.length c5) I5 (by omega))
  have J7 := setL_far (g := w.heap.size + 1) (o := 0) (by omega) us7 (far_set (g := w.heap.size + 1 + 1) (o := 6) (u := .slice A5 m.ag.length c5) J5 (by omega))
  clear k0 k1 k2 k3 k4 k5 k6 y0 y1 y2 y3 y4 y5 y6 R5 Z5 R6 Z6 O5 I5 J5 F1 F2 B5
  show bodyPost _ _ _ _ _ (setL (w5.setCell ⟨w.heap.size + 1 + 1, 6, none⟩ (.slice A5 m.ag.length c5)) (w.heap.size + 1) 0 us7)
  generalize (setL (w5.setCell ⟨w.heap.size + 1 + 1, 6, none⟩ (.slice A5 m.ag.length c5)) (w.heap.size + 1) 0 us7) = W at *
  have s0 := Z7 0 _ rfl
  have s1 := Z7 1 _ rfl
  have s2 := Z7 2 _ rfl
  have s3 := Z7 3 _ rfl
  have s4 := Z7 4 _ rfl
  have s5 := Z7 5 _ rfl
  have s6 := Z7 6 _ rfl
  refine bodyPost_ret (v := mrgV m (.slice A' m.d.secs.length c') (.slice A3 m.fr.length c3) (.slice A5 m.ag.length c5)) (by simp [results, Try.results23, go_sem, s0, s1, s2, s3, s4, s5, s6]; try done) rfl ⟨A', c', A3, c3, A5, c5, rfl, ⟨OwnL.base O7 (by omega), OwnL.base I7 (by omega), OwnL.base J7 (by omega)⟩, B7⟩
set_option maxRecDepth 20000 in
set_option maxHeartbeats 4000000 in
theorem eqMrg (m : Mrg) (Ba Bb : Nat) (w : World) {bv fv av bv' fv' av' : Value} (h : MrgOwn Ba w m bv fv av) (h' : MrgOwn Bb w m bv' fv' av') (hd : m.d.secs.length ≤ 8388608) (hf : m.fr.length ≤ 8388608) (ha : m.ag.length ≤ 8388608) :
    Calls Try.prog 25 #[mrgV m bv fv av, mrgV m bv' fv' av'] w fun e w' => e = .returned (.bool true) ∧ Below w.heap.size w w' := by
  have H1 := Lib.hid h
  have H2 := Lib.hid h'
  obtain ⟨A, c, rfl, _⟩ := OwnL.shape h.d
  obtain ⟨A1, c1, rfl, _⟩ := OwnL.shape h.fr
  obtain ⟨A2, c2, rfl, _⟩ := OwnL.shape h.ag
  obtain ⟨A', c', rfl, _⟩ := OwnL.shape h'.d
  obtain ⟨A1', c1', rfl, _⟩ := OwnL.shape h'.fr
  obtain ⟨A2', c2', rfl, _⟩ := OwnL.shape h'.ag
  have HB : Below w.heap.size w ((w.alloc (.cells #[.int .i64 m.d.cyl, .int .i64 m.d.heads, .int .i64 m.d.per, .int .i64 m.d.size, .slice A m.d.secs.length c, .slice A1 m.fr.length c1, .slice A2 m.ag.length c2] 41)).alloc (.cells #[.int .i64 m.d.cyl, .int .i64 m.d.heads, .int .i64 m.d.per, .int .i64 m.d.size, .slice A' m.d.secs.length c', .slice A1' m.fr.length c1', .slice A2' m.ag.length c2'] 41)) := (by repeat (first | exact Below.refl _ _ | refine Below.alloc ?_ (by first | omega | (simp; done) | (simp; omega)) _ | apply Below.drew | apply below_drewN | refine Below.setCell ?_ (by first | omega | (simp; done) | (simp; omega)) _ | refine Below.trans ?_ (Below.mono (by assumption) (by first | omega | (simp; done) | (simp; omega)))))
  have HD := Lib.hid (eqDsc m.d _ _ Ba Bb ((w.alloc (.cells #[.int .i64 m.d.cyl, .int .i64 m.d.heads, .int .i64 m.d.per, .int .i64 m.d.size, .slice A m.d.secs.length c, .slice A1 m.fr.length c1, .slice A2 m.ag.length c2] 41)).alloc (.cells #[.int .i64 m.d.cyl, .int .i64 m.d.heads, .int .i64 m.d.per, .int .i64 m.d.size, .slice A' m.d.secs.length c', .slice A1' m.fr.length c1', .slice A2' m.ag.length c2'] 41)) (H1.out.below HB).d (H2.out.below HB).d hd)
  have HF := Lib.hid (fun (w' : World) (hb : Below w.heap.size w w') => eqInt64S m.fr _ _ Ba Bb w' (H1.out.below hb).fr (H2.out.below hb).fr hf)
  have HA := Lib.hid (fun (w' : World) (hb : Below w.heap.size w w') => eqInt64S m.ag _ _ Ba Bb w' (H1.out.below hb).ag (H2.out.below hb).ag ha)
  clear h h'
  go_enter Try.func25, Try.ntmps25
  go_wp2_with (fail)
  refine HD.out.mono ?_; rintro e w1 ⟨rfl, hb1⟩
  have B1 : Below w.heap.size w w1 := HB.trans (hb1.mono (by simp; omega))
  have p5 : w1.cell? ⟨w.heap.size, 5, none⟩ = some (.slice A1 m.fr.length c1) := (hb1.cell (p := ⟨w.heap.size, 5, none⟩) (by simp; omega)).trans (by simp [go_sem])
  have p6 : w1.cell? ⟨w.heap.size, 6, none⟩ = some (.slice A2 m.ag.length c2) := (hb1.cell (p := ⟨w.heap.size, 6, none⟩) (by simp; omega)).trans (by simp [go_sem])
  have q5 : w1.cell? ⟨w.heap.size + 1, 5, none⟩ = some (.slice A1' m.fr.length c1') := (hb1.cell (p := ⟨w.heap.size + 1, 5, none⟩) (by simp)).trans (by simp [go_sem])
  have q6 : w1.cell? ⟨w.heap.size + 1, 6, none⟩ = some (.slice A2' m.ag.length c2') := (hb1.cell (p := ⟨w.heap.size + 1, 6, none⟩) (by simp)).trans (by simp [go_sem])
  clear hb1
  go_wp2_with (fail)
  refine (HF.out w1 B1).mono ?_; rintro e w2 ⟨rfl, hq2⟩
  have B2 : Below w.heap.size w w2 := B1.trans (hq2.below _)
  have p6' := (hq2.cell ⟨w.heap.size, 6, none⟩).trans p6
  have q6' := (hq2.cell ⟨w.heap.size + 1, 6, none⟩).trans q6
  clear p5 q5 p6 q6 hq2 B1
  go_wp2_with (fail)
  refine (HA.out w2 B2).mono ?_; rintro e w3 ⟨rfl, hq3⟩
  go_wp2
  go_ret
  exact ⟨rfl, B2.trans (hq3.below _)⟩
end Go.Proofs.Ytignjjkldmninaa
