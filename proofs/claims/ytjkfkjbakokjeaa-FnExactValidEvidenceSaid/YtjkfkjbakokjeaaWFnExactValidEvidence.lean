/- The walk of FnExactValidEvidence. -/
import Derived.Test.YtjkfkjbakokjeaaEvS
import Derived.Deep.RegionHeld3
namespace Go.Proofs.Ytjkfkjbakokjeaa
set_option linter.unusedVariables false
open Go.RowKit
abbrev Four (a b c d : Value) (g : Nat) (w : World) : Prop := w.cell? ⟨g, 0, none⟩ = some a ∧ w.cell? ⟨g, 1, none⟩ = some b ∧ w.cell? ⟨g, 2, none⟩ = some c ∧ w.cell? ⟨g, 3, none⟩ = some d
theorem Row.four {w : World} {g : Nat} {a b c d : Value} (h : Row w g [a, b, c, d]) : Four a b c d g w := ⟨h 0 _ rfl, h 1 _ rfl, h 2 _ rfl, h 3 _ rfl⟩
theorem swts_mem {l : List ByteArray} {x : Int} (h : ((l.length + swts l : Nat) : Int) ≤ x) : ((l.length : Nat) : Int) ≤ x := by omega
/-- the bounds that the size of evidence gives -/
theorem evZ_small {e : Evd} {x : Int} (hx : x ≤ 1048576) (h : ¬ evZ x e < 0) : e.ds.length + Dsc.wts e.ds ≤ 1048576 ∧ e.cr.length ≤ 1048576 ∧ e.p.length + swts e.p ≤ 1048576 ∧ e.q.length + swts e.q ≤ 1048576 := by
  unfold evZ at h
  have hl : ∀ {y : Int} {n : Nat}, ¬ szR y n < 0 → (n : Int) ≤ y ∧ szR y n = y - n := fun {y n} h => by
    have h1 : (n : Int) ≤ y := by rw [szR_neg] at h; omega
    exact ⟨h1, szR_yes h1⟩
  obtain ⟨h4, e4⟩ := hl h
  obtain ⟨h3, e3⟩ := hl (y := szR (szR x (e.ds.length + Dsc.wts e.ds)) e.cr.length) (n := e.p.length + swts e.p) (by omega)
  obtain ⟨h2, e2⟩ := hl (y := szR x (e.ds.length + Dsc.wts e.ds)) (n := e.cr.length) (by omega)
  obtain ⟨h1, e1⟩ := hl (y := x) (n := e.ds.length + Dsc.wts e.ds) (by omega)
  omega
theorem ev_small {w : World} {e : Evd} {a b c d : Value} (h : EvIn w e a b c d) (hw : e.ds.length + Dsc.wts e.ds ≤ 1048576 ∧ e.cr.length ≤ 1048576 ∧ e.p.length + swts e.p ≤ 1048576 ∧ e.q.length + swts e.q ≤ 1048576) : EvSmall e where
  ds := by omega
  secs := fun x hx => by
    have h1 := Dsc.wts_le hx
    have h2 : x.wt = x.secs.length + Sec.wts x.secs := rfl
    omega
  data := by
    obtain ⟨_, _, _, _, hA⟩ := h.ds
    rcases hA with hA | ⟨b, o, _, _, hc⟩
    · intro x hx; rw [hA] at hx; cases hx
    · intro x hx
      obtain ⟨k, hk⟩ := List.getElem?_of_mem hx
      obtain ⟨bv, hs, _⟩ := hc k x hk
      exact hs.2
  cr := by omega
  p := by omega
  q := by omega
  ps := h.p.2
  qs := h.q.2
set_option maxRecDepth 20000 in
set_option maxHeartbeats 8000000 in
theorem walkFnExactValidEvidence (e : Evd) (w : World) {va vb vc vd : Value} (h : EvIn w e va vb vc vd) :
    Calls Try.prog 6 #[evV va vb vc vd] w fun r w' => r = .returned (.bool true) ∧ Below w.heap.size w w' := by
  have H1 := Lib.hid h
  obtain ⟨A, n, hv, _, _⟩ := h.ds
  obtain ⟨B', k, hv1, _, _⟩ := h.cr
  obtain ⟨⟨C, i, hv2, _, _⟩, _⟩ := h.p
  obtain ⟨⟨D, j, hv3, _, _⟩, _⟩ := h.q
  subst hv hv1 hv2 hv3
  clear h
  have B0 : Below w.heap.size w (w.alloc (.cells #[.slice A e.ds.length n, .slice B' e.cr.length k, .slice C e.p.length i, .slice D e.q.length j] 54)) := Below.alloc (Below.refl _ _) (Nat.le_refl _) _
  have z0 : ((w.alloc (.cells #[.slice A e.ds.length n, .slice B' e.cr.length k, .slice C e.p.length i, .slice D e.q.length j] 54))).heap.size = w.heap.size + 1 := by simp
  have R0 : Row (w.alloc (.cells #[.slice A e.ds.length n, .slice B' e.cr.length k, .slice C e.p.length i, .slice D e.q.length j] 54)) w.heap.size [.slice A e.ds.length n, .slice B' e.cr.length k, .slice C e.p.length i, .slice D e.q.length j] := Row.alloc w #[.slice A e.ds.length n, .slice B' e.cr.length k, .slice C e.p.length i, .slice D e.q.length j] 54
  have HZ := Lib.hid (szEvd e _ _ _ _ 1048576 (w.alloc (.cells #[.slice A e.ds.length n, .slice B' e.cr.length k, .slice C e.p.length i, .slice D e.q.length j] 54)) (H1.out.below B0) ⟨by omega, by omega⟩)
  by_cases q1 : evZ 1048576 e < 0
  · generalize evZ 1048576 e = x at *
    have d1 : decide (x < 0) = true := by simpa using q1
    go_enter Try.func6, Try.ntmps6
    go_wp2_with (fail)
    refine HZ.out.mono ?_; rintro r w1 ⟨rfl, hb1⟩
    go_wp2
    go_ret
    exact ⟨rfl, B0.trans (hb1.mono (by omega))⟩
  · have hw := evZ_small (e := e) (by omega) q1
    have hs := ev_small H1.out hw
    generalize evZ 1048576 e = x at *
    have d1 : decide (x < 0) = false := by simpa using q1
    have T := Lib.hid (fun (w' : World) (hb : Below w.heap.size w w') => toEvd e _ _ _ _ w' (H1.out.below hb) hs.ds hs.secs hs.cr hs.p hs.q)
    have Fs := Lib.hid (fun (w' : World) (B : Nat) (a b c d : Value) (o : EvOwn B w' e a b c d) => ev_s B e a b c d w' o hs)
    have Fi := Lib.hid (fun (w' : World) (B : Nat) (a b c d : Value) (o : EvOwn B w' e a b c d) => ev_i B e a b c d w' o hs)
    have Eq := Lib.hid (fun (w' : World) (Ba Bb : Nat) (a b c d a' b' c' d' : Value) (o : EvOwn Ba w' e a b c d) (o' : EvOwn Bb w' e a' b' c' d') => eqEvd e Ba Bb w' o o' (by have := hs.ds; omega) (fun d hd => by have := hs.secs d hd; omega) (by have := hs.cr; omega) (by have := hs.p; omega) (by have := hs.q; omega))
    generalize evOk e = ok at *
    clear H1 hs hw
    go_enter Try.func6, Try.ntmps6
    go_wp2_with (fail)
    refine HZ.out.mono ?_; rintro r w1 ⟨rfl, hb1⟩
    have z1 : w.heap.size + 1 ≤ w1.heap.size := by have := hb1.size; omega
    have B1 : Below w.heap.size w w1 := B0.trans (hb1.mono (by omega))
    have R1 := R0.below hb1 (by omega)
    clear R0 B0 z0 hb1 HZ
    obtain ⟨c0, c1, c2, c3⟩ := R1.four
    go_wp2_with (fail)
    refine (T.out w1 B1).mono ?_; rintro r w2 ⟨a2, b2, cc2, dd2, rfl, o2, hb2⟩
    have B2 : Below w.heap.size w w2 := B1.trans (hb2.mono (by omega))
    have z2 : w.heap.size + 1 ≤ w2.heap.size := Nat.le_trans z1 hb2.size
    have R2 := R1.below hb2 (by omega)
    clear c0 c1 c2 c3 R1 hb2
    obtain ⟨A2, n2, B2', k2, C2, i2, D2, j2, rfl, rfl, rfl, rfl⟩ := o2.shape
    go_wp2_with (fail)
    refine (Fs.out w2 _ _ _ _ _ o2).mono ?_; rintro r w3 ⟨rfl, hb3⟩
    have B3 : Below w.heap.size w w3 := B2.trans (hb3.mono (by omega))
    have z3 : w.heap.size + 1 ≤ w3.heap.size := Nat.le_trans z2 hb3.size
    have R3 := R2.below hb3 (by omega)
    clear R2 hb3 o2
    obtain ⟨c0, c1, c2, c3⟩ := R3.four
    go_wp2_with (fail)
    refine (T.out w3 B3).mono ?_; rintro r w4 ⟨a4, b4, cc4, dd4, rfl, o4, hb4⟩
    have B4 : Below w.heap.size w w4 := B3.trans (hb4.mono (by omega))
    have z4 : w.heap.size + 1 ≤ w4.heap.size := Nat.le_trans z3 hb4.size
    have R4 := R3.below hb4 (by omega)
    clear c0 c1 c2 c3 R3 hb4
    obtain ⟨A4, n4, B4', k4, C4, i4, D4, j4, rfl, rfl, rfl, rfl⟩ := o4.shape
    have Bx : Below w4.heap.size w4 (w4.alloc (.cells #[.slice A4 e.ds.length n4, .slice B4' e.cr.length k4, .slice C4 e.p.length i4, .slice D4 e.q.length j4] 59)) := Below.alloc (Below.refl _ _) (Nat.le_refl _) _
    have B5 : Below w.heap.size w (w4.alloc (.cells #[.slice A4 e.ds.length n4, .slice B4' e.cr.length k4, .slice C4 e.p.length i4, .slice D4 e.q.length j4] 59)) := B4.trans (Bx.mono (by omega))
    have z5 : w4.heap.size + 1 = ((w4.alloc (.cells #[.slice A4 e.ds.length n4, .slice B4' e.cr.length k4, .slice C4 e.p.length i4, .slice D4 e.q.length j4] 59))).heap.size := by simp
    have R5 := R4.below Bx (by omega)
    have X5 : Row (w4.alloc (.cells #[.slice A4 e.ds.length n4, .slice B4' e.cr.length k4, .slice C4 e.p.length i4, .slice D4 e.q.length j4] 59)) w4.heap.size [.slice A4 e.ds.length n4, .slice B4' e.cr.length k4, .slice C4 e.p.length i4, .slice D4 e.q.length j4] := Row.alloc w4 #[.slice A4 e.ds.length n4, .slice B4' e.cr.length k4, .slice C4 e.p.length i4, .slice D4 e.q.length j4] 59
    have o5 := o4.below Bx
    clear R4 o4
    obtain ⟨c0, c1, c2, c3⟩ := X5.four
    go_wp2_with (fail)
    generalize (w4.alloc (.cells #[.slice A4 e.ds.length n4, .slice B4' e.cr.length k4, .slice C4 e.p.length i4, .slice D4 e.q.length j4] 59)) = w5 at *
    refine (Fi.out w5 _ _ _ _ _ o5).mono ?_; rintro r w6 ⟨rfl, hb6⟩
    have B6 : Below w.heap.size w w6 := B5.trans (hb6.mono (by omega))
    have z6 : w4.heap.size + 1 ≤ w6.heap.size := by have := hb6.size; omega
    have R6 := R5.below hb6 (by omega)
    have X6 := X5.below hb6 (by omega)
    have o6 := o5.below hb6
    clear R5 X5 o5 hb6 c0 c1 c2 c3 z5 Bx B5
    have hok : (ok == ok) = true := by simp
    have hok' : (ok != ok) = false := by simp
    go_wp2_with (fail)
    have B6d := B6.drew
    have R6d := R6.below (Below.refl _ _).drew (by omega)
    have X6d := X6.below (Below.refl _ _).drew (by omega)
    have o6d := o6.below (Below.refl _ _).drew
    go_region_held3 (fun w' => Four (.slice A e.ds.length n) (.slice B' e.cr.length k) (.slice C e.p.length i) (.slice D e.q.length j) w.heap.size w' ∧ Four (.slice A4 e.ds.length n4) (.slice B4' e.cr.length k4) (.slice C4 e.p.length i4) (.slice D4 e.q.length j4) w4.heap.size w')
      (first | exact ⟨R6d.four, X6d.four⟩ | exact ⟨(R6d.below hb7 (by show w.heap.size < w6.heap.size; omega)).four, (X6d.below hb7 (by show w4.heap.size < w6.heap.size; omega)).four⟩ | exact ⟨((R6d.below hb7 (by show w.heap.size < w6.heap.size; omega)).below hb8 (by have q : w6.heap.size ≤ w7.heap.size := hb7.size; omega)).four, ((X6d.below hb7 (by show w4.heap.size < w6.heap.size; omega)).below hb8 (by have q : w6.heap.size ≤ w7.heap.size := hb7.size; omega)).four⟩)
      (first
        | (go_at_call 26; refine (T.out _ B6d).mono ?_; rintro r w7 ⟨a7, b7, cc7, dd7, rfl, o7, hb7⟩; obtain ⟨A7, n7, B7', k7, C7, i7, D7, j7, rfl, rfl, rfl, rfl⟩ := o7.shape)
        | (go_at_call 28; refine (Eq.out w7 _ _ _ _ _ _ _ _ _ _ (o6d.below hb7) o7).mono ?_; rintro r w8 ⟨rfl, hb8⟩))
    go_wp2
    go_ret
    exact ⟨rfl, (B6d.trans (hb7.mono B6d.size)).trans (hb8.mono (by have q : w6.heap.size ≤ w7.heap.size := hb7.size; have := B6.size; omega))⟩
end Go.Proofs.Ytjkfkjbakokjeaa
