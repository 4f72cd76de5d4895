/- The laws' own helpers over evidence: copies whose parts stand apart, marks. Printed by gen_evt.py. Marks of evidence. Printed by gen_evt.py. Helpers of the laws over evidence: sizes, and the answers as representations. The lost sectors: what the walks keep. Layings of the library over this program (printed by the kit, over the functions of this seat). -/
import Derived.Test.YtfcdienphillnaaGreatLr06
import Derived.Test.YtfcdienphillnaaGreatLr37
import Derived.Test.YtfcdienphillnaaGreatLr01
import Derived.Test.YtfcdienphillnaaGreatLr36
import Derived.Test.YtfcdienphillnaaGreatLr22
import Derived.Test.YtfcdienphillnaaGreatLr05
import Derived.Test.YtfcdienphillnaaGreatProg
import Derived.Shelf.SlSortCmp.NoneTotal
import Derived.Shelf.SlGeneric
namespace Go.Proofs.YtfcdienphillnaaGreat
set_option linter.unusedVariables false
set_option linter.unusedSimpArgs false
open Go.RowKit
/-- evidence that the call has made, each part in blocks of its own -/
def EvT (B E : Nat) (w : World) (e : Evd) (a b c d : Value) : Prop := ∃ b0 e0 b1 e1 b2 e2 b3 e3, B ≤ b0 ∧ B ≤ b1 ∧ B ≤ b2 ∧ B ≤ b3 ∧ e0 ≤ E ∧ e1 ≤ E ∧ e2 ≤ E ∧ e3 ≤ E ∧ e0 ≤ b1 ∧ e0 ≤ b2 ∧ e0 ≤ b3 ∧ e1 ≤ b2 ∧ e1 ≤ b3 ∧ e2 ≤ b3 ∧ RDscS.own b0 e0 w a e.ds ∧ RInt64S.own b1 e1 w b e.cr ∧ RStringS.own b2 e2 w c e.p ∧ RStringS.own b3 e3 w d e.q
theorem EvT.own {B E : Nat} {w : World} {e : Evd} {a b c d : Value} (h : EvT B E w e a b c d) : EvOwn B w e a b c d := by
  obtain ⟨b0, e0, b1, e1, b2, e2, b3, e3, h1, h2, h3, h4, _, _, _, _, _, _, _, _, _, _, o0, o1, o2, o3⟩ := h
  exact ⟨DscOwn.base (dsc_own o0) h1, OwnL.base o1.1 h2, OwnL.base o2.1 h3, OwnL.base o3.1 h4⟩
theorem EvT.below {B E : Nat} {w w' : World} {e : Evd} {a b c d : Value} (h : EvT B E w e a b c d) (hb : Below w.heap.size w w') : EvT B E w' e a b c d := by
  obtain ⟨b0, e0, b1, e1, b2, e2, b3, e3, h1, h2, h3, h4, h5, h6, h7, h8, h9, h10, h11, h12, h13, h14, o0, o1, o2, o3⟩ := h
  exact ⟨b0, e0, b1, e1, b2, e2, b3, e3, h1, h2, h3, h4, h5, h6, h7, h8, h9, h10, h11, h12, h13, h14, Rep.keep (R := RDscS) o0 hb, Rep.keep (R := RInt64S) o1 hb, Rep.keep (R := RStringS) o2 hb, Rep.keep (R := RStringS) o3 hb⟩
theorem rep_far {α : Type} {R : Rep α} {B E g o : Nat} {w : World} {v u : Value} {x : α} (h : R.own B E w v x) (hg : g < B) : R.own B E (w.setCell ⟨g, o, none⟩ u) v x :=
  R.chg h (Chg.set (Chg.of_below (B := g) (E := g + 1) (Below.refl _ _)) ⟨Nat.le_refl _, Nat.lt_succ_self _⟩) (.inr hg)
set_option maxRecDepth 20000 in
set_option maxHeartbeats 4000000 in
theorem toEvdT (e : Evd) (va vb vc vd : Value) (w : World) (h : EvIn w e va vb vc vd) (h1 : RDscS.wt e.ds ≤ 1048576) (h2 : e.cr.length ≤ 1048576) (h3 : e.p.length ≤ 1048576) (h4 : e.q.length ≤ 1048576) :
    Calls Tryz.prog 12 #[evV va vb vc vd] w fun r w' => ∃ a b c d, r = .returned (evV a b c d) ∧ EvT w.heap.size w'.heap.size w' e a b c d ∧ Below w.heap.size w w' := by
  have HH := Lib.hid h
  obtain ⟨A, n, hv, _, _⟩ := h.ds
  obtain ⟨B', k, hv1, _, _⟩ := h.cr
  obtain ⟨⟨C, i, hv2, _, _⟩, _⟩ := h.p
  obtain ⟨⟨D, j, hv3, _, _⟩, _⟩ := h.q
  subst hv hv1 hv2 hv3
  have HB : Below w.heap.size w (((w.alloc (.cells #[.slice A e.ds.length n, .slice B' e.cr.length k, .slice C e.p.length i, .slice D e.q.length j] 26)).alloc (.cells #[.slice none 0 0, .slice none 0 0, .slice none 0 0, .slice none 0 0] 39)).alloc (.cells #[.slice none 0 0, .slice none 0 0, .slice none 0 0, .slice none 0 0] 39)) := (by repeat (first | exact Below.refl _ _ | refine Below.alloc ?_ (by first | omega | (simp; done) | (simp; omega)) _ | apply Below.drew | apply below_drewN | refine Below.setCell ?_ (by first | omega | (simp; done) | (simp; omega)) _ | refine Below.trans ?_ (Below.mono (by assumption) (by first | omega | (simp; done) | (simp; omega)))))
  have T0 := Lib.hid (r_toDscS e.ds (.slice A e.ds.length n) (((w.alloc (.cells #[.slice A e.ds.length n, .slice B' e.cr.length k, .slice C e.p.length i, .slice D e.q.length j] 26)).alloc (.cells #[.slice none 0 0, .slice none 0 0, .slice none 0 0, .slice none 0 0] 39)).alloc (.cells #[.slice none 0 0, .slice none 0 0, .slice none 0 0, .slice none 0 0] 39)) (HH.out.below HB).ds h1)
  have T1 := Lib.hid (fun (w' : World) (hb : Below w.heap.size w w') => r_toInt64S e.cr (.slice B' e.cr.length k) w' ⟨(HH.out.below hb).cr, fun _ _ => trivial⟩ h2)
  have T2 := Lib.hid (fun (w' : World) (hb : Below w.heap.size w w') => r_toStringS e.p (.slice C e.p.length i) w' (HH.out.below hb).p h3)
  have T3 := Lib.hid (fun (w' : World) (hb : Below w.heap.size w w') => r_toStringS e.q (.slice D e.q.length j) w' (HH.out.below hb).q h4)
  have S3 : ((((w.alloc (.cells #[.slice A e.ds.length n, .slice B' e.cr.length k, .slice C e.p.length i, .slice D e.q.length j] 26)).alloc (.cells #[.slice none 0 0, .slice none 0 0, .slice none 0 0, .slice none 0 0] 39)).alloc (.cells #[.slice none 0 0, .slice none 0 0, .slice none 0 0, .slice none 0 0] 39))).heap.size = w.heap.size + 3 := by simp
  have R0 : Row (((w.alloc (.cells #[.slice A e.ds.length n, .slice B' e.cr.length k, .slice C e.p.length i, .slice D e.q.length j] 26)).alloc (.cells #[.slice none 0 0, .slice none 0 0, .slice none 0 0, .slice none 0 0] 39)).alloc (.cells #[.slice none 0 0, .slice none 0 0, .slice none 0 0, .slice none 0 0] 39)) (w.heap.size + 1 + 1) [.slice none 0 0, .slice none 0 0, .slice none 0 0, .slice none 0 0] := by
    have := Row.alloc ((w.alloc (.cells #[.slice A e.ds.length n, .slice B' e.cr.length k, .slice C e.p.length i, .slice D e.q.length j] 26)).alloc (.cells #[.slice none 0 0, .slice none 0 0, .slice none 0 0, .slice none 0 0] 39)) #[.slice none 0 0, .slice none 0 0, .slice none 0 0, .slice none 0 0] 39
    simpa using this
  have Z0 : Row (((w.alloc (.cells #[.slice A e.ds.length n, .slice B' e.cr.length k, .slice C e.p.length i, .slice D e.q.length j] 26)).alloc (.cells #[.slice none 0 0, .slice none 0 0, .slice none 0 0, .slice none 0 0] 39)).alloc (.cells #[.slice none 0 0, .slice none 0 0, .slice none 0 0, .slice none 0 0] 39)) (w.heap.size + 1) [.slice none 0 0, .slice none 0 0, .slice none 0 0, .slice none 0 0] := by
    have := (Row.alloc (w.alloc (.cells #[.slice A e.ds.length n, .slice B' e.cr.length k, .slice C e.p.length i, .slice D e.q.length j] 26)) #[.slice none 0 0, .slice none 0 0, .slice none 0 0, .slice none 0 0] 39).below (Below.alloc (Below.refl _ _) (Nat.le_refl _) (.cells #[.slice none 0 0, .slice none 0 0, .slice none 0 0, .slice none 0 0] 39)) (by simp)
    simpa using this
  have Y0 : Row (((w.alloc (.cells #[.slice A e.ds.length n, .slice B' e.cr.length k, .slice C e.p.length i, .slice D e.q.length j] 26)).alloc (.cells #[.slice none 0 0, .slice none 0 0, .slice none 0 0, .slice none 0 0] 39)).alloc (.cells #[.slice none 0 0, .slice none 0 0, .slice none 0 0, .slice none 0 0] 39)) w.heap.size [.slice A e.ds.length n, .slice B' e.cr.length k, .slice C e.p.length i, .slice D e.q.length j] := (Row.alloc w #[.slice A e.ds.length n, .slice B' e.cr.length k, .slice C e.p.length i, .slice D e.q.length j] 26).below (Below.alloc (Below.alloc (Below.refl _ _) (Nat.le_refl _) (.cells #[.slice none 0 0, .slice none 0 0, .slice none 0 0, .slice none 0 0] 39)) (by simp) (.cells #[.slice none 0 0, .slice none 0 0, .slice none 0 0, .slice none 0 0] 39)) (by simp)
  have F0 : ∀ o, ((((w.alloc (.cells #[.slice A e.ds.length n, .slice B' e.cr.length k, .slice C e.p.length i, .slice D e.q.length j] 26)).alloc (.cells #[.slice none 0 0, .slice none 0 0, .slice none 0 0, .slice none 0 0] 39)).alloc (.cells #[.slice none 0 0, .slice none 0 0, .slice none 0 0, .slice none 0 0] 39))).frozen? ⟨w.heap.size + 1, o, none⟩ = false := by intro o; simp [go_sem]
  have G0 : ∀ o, ((((w.alloc (.cells #[.slice A e.ds.length n, .slice B' e.cr.length k, .slice C e.p.length i, .slice D e.q.length j] 26)).alloc (.cells #[.slice none 0 0, .slice none 0 0, .slice none 0 0, .slice none 0 0] 39)).alloc (.cells #[.slice none 0 0, .slice none 0 0, .slice none 0 0, .slice none 0 0] 39))).frozen? ⟨w.heap.size + 1 + 1, o, none⟩ = false := by intro o; simp [go_sem]
  clear h
  go_enter Tryz.func12, Tryz.ntmps12
  go_wp2_with (fail)
  refine T0.out.mono ?_; rintro r w1 ⟨v0, rfl, o0, hb⟩
  have z : w.heap.size + 3 ≤ w1.heap.size := by have := hb.size; omega
  have Bn : Below w.heap.size w w1 := HB.trans (hb.mono (by omega))
  replace o0 : RDscS.own (w.heap.size + 3) w1.heap.size w1 v0 e.ds := by rw [S3] at o0; exact o0
  have x1 : w.heap.size + 3 ≤ w1.heap.size := z
  have R0a := R0.below hb (by omega)
  have Z0a := Z0.below hb (by omega)
  have Y0a := Y0.below hb (by omega)
  have F0a := frozen_below F0 hb (by omega)
  have G0a := frozen_below G0 hb (by omega)
  clear R0 Z0 Y0 F0 G0 hb
  obtain ⟨A0, n0, rfl⟩ := (dsc_own o0).shape
  clear T0 HB S3
  have yc := Y0a 1 _ rfl
  have rc := R0a 0 _ rfl
  have fc := G0a 0
  go_wp2_with (fail)
  clear yc rc fc
  have B1 : Below w.heap.size w (w1.setCell ⟨w.heap.size + 1 + 1, 0, none⟩ (.slice A0 e.ds.length n0)) := Below.setCell Bn (by show w.heap.size ≤ w.heap.size + 1 + 1; omega) _
  have z1 : w.heap.size + 3 ≤ ((w1.setCell ⟨w.heap.size + 1 + 1, 0, none⟩ (.slice A0 e.ds.length n0))).heap.size := by rw [setCell_size]; exact z
  replace o0 := rep_far (R := RDscS) (g := w.heap.size + 1 + 1) (o := 0) (u := .slice A0 e.ds.length n0) o0 (by omega)
  have R1 := R0a.set (o := 0) (.slice A0 e.ds.length n0) (by simp)
  have Z1 := Z0a.set_other (g := w.heap.size + 1 + 1) (o := 0) (.slice A0 e.ds.length n0) (by omega)
  have Y1 := Y0a.set_other (g := w.heap.size + 1 + 1) (o := 0) (.slice A0 e.ds.length n0) (by omega)
  have F1 := fun o => (setCell_frozen w1 ⟨w.heap.size + 1 + 1, 0, none⟩ ⟨w.heap.size + 1, o, none⟩ (.slice A0 e.ds.length n0)).trans (F0a o)
  have G1 := fun o => (setCell_frozen w1 ⟨w.heap.size + 1 + 1, 0, none⟩ ⟨w.heap.size + 1 + 1, o, none⟩ (.slice A0 e.ds.length n0)).trans (G0a o)
  clear R0a Z0a Y0a F0a G0a Bn z
  have y1 : (w1.setCell ⟨w.heap.size + 1 + 1, 0, none⟩ (.slice A0 e.ds.length n0)).heap.size = w1.heap.size := setCell_size _ _ _
  generalize (w1.setCell ⟨w.heap.size + 1 + 1, 0, none⟩ (.slice A0 e.ds.length n0)) = w2 at *
  refine (T1.out w2 B1).mono ?_; rintro r w3 ⟨v1, rfl, o1, hb⟩
  have z : w.heap.size + 3 ≤ w3.heap.size := Nat.le_trans z1 hb.size
  have Bn : Below w.heap.size w w3 := B1.trans (hb.mono (by omega))
  have x1 := hb.size
  replace o0 := Rep.keep (R := RDscS) o0 hb
  have R1a := R1.below hb (by omega)
  have Z1a := Z1.below hb (by omega)
  have Y1a := Y1.below hb (by omega)
  have F1a := frozen_below F1 hb (by omega)
  have G1a := frozen_below G1 hb (by omega)
  clear R1 Z1 Y1 F1 G1 hb
  obtain ⟨A1, n1, rfl, _⟩ := OwnL.shape o1.1
  have yc := Y1a 2 _ rfl
  have rc := R1a 1 _ rfl
  have fc := G1a 1
  go_wp2_with (fail)
  clear yc rc fc
  have B2 : Below w.heap.size w (w3.setCell ⟨w.heap.size + 1 + 1, 1, none⟩ (.slice A1 e.cr.length n1)) := Below.setCell Bn (by show w.heap.size ≤ w.heap.size + 1 + 1; omega) _
  have z2 : w.heap.size + 3 ≤ ((w3.setCell ⟨w.heap.size + 1 + 1, 1, none⟩ (.slice A1 e.cr.length n1))).heap.size := by rw [setCell_size]; exact z
  replace o0 := rep_far (R := RDscS) (g := w.heap.size + 1 + 1) (o := 1) (u := .slice A1 e.cr.length n1) o0 (by omega)
  replace o1 := rep_far (R := RInt64S) (g := w.heap.size + 1 + 1) (o := 1) (u := .slice A1 e.cr.length n1) o1 (by omega)
  have R2 := R1a.set (o := 1) (.slice A1 e.cr.length n1) (by simp)
  have Z2 := Z1a.set_other (g := w.heap.size + 1 + 1) (o := 1) (.slice A1 e.cr.length n1) (by omega)
  have Y2 := Y1a.set_other (g := w.heap.size + 1 + 1) (o := 1) (.slice A1 e.cr.length n1) (by omega)
  have F2 := fun o => (setCell_frozen w3 ⟨w.heap.size + 1 + 1, 1, none⟩ ⟨w.heap.size + 1, o, none⟩ (.slice A1 e.cr.length n1)).trans (F1a o)
  have G2 := fun o => (setCell_frozen w3 ⟨w.heap.size + 1 + 1, 1, none⟩ ⟨w.heap.size + 1 + 1, o, none⟩ (.slice A1 e.cr.length n1)).trans (G1a o)
  clear R1a Z1a Y1a F1a G1a Bn z
  have y2 : (w3.setCell ⟨w.heap.size + 1 + 1, 1, none⟩ (.slice A1 e.cr.length n1)).heap.size = w3.heap.size := setCell_size _ _ _
  generalize (w3.setCell ⟨w.heap.size + 1 + 1, 1, none⟩ (.slice A1 e.cr.length n1)) = w4 at *
  refine (T2.out w4 B2).mono ?_; rintro r w5 ⟨v2, rfl, o2, hb⟩
  have z : w.heap.size + 3 ≤ w5.heap.size := Nat.le_trans z2 hb.size
  have Bn : Below w.heap.size w w5 := B2.trans (hb.mono (by omega))
  have x2 := hb.size
  replace o0 := Rep.keep (R := RDscS) o0 hb
  replace o1 := Rep.keep (R := RInt64S) o1 hb
  have R2a := R2.below hb (by omega)
  have Z2a := Z2.below hb (by omega)
  have Y2a := Y2.below hb (by omega)
  have F2a := frozen_below F2 hb (by omega)
  have G2a := frozen_below G2 hb (by omega)
  clear R2 Z2 Y2 F2 G2 hb
  obtain ⟨A2, n2, rfl, _⟩ := OwnL.shape o2.1
  have yc := Y2a 3 _ rfl
  have rc := R2a 2 _ rfl
  have fc := G2a 2
  go_wp2_with (fail)
  clear yc rc fc
  have B3 : Below w.heap.size w (w5.setCell ⟨w.heap.size + 1 + 1, 2, none⟩ (.slice A2 e.p.length n2)) := Below.setCell Bn (by show w.heap.size ≤ w.heap.size + 1 + 1; omega) _
  have z3 : w.heap.size + 3 ≤ ((w5.setCell ⟨w.heap.size + 1 + 1, 2, none⟩ (.slice A2 e.p.length n2))).heap.size := by rw [setCell_size]; exact z
  replace o0 := rep_far (R := RDscS) (g := w.heap.size + 1 + 1) (o := 2) (u := .slice A2 e.p.length n2) o0 (by omega)
  replace o1 := rep_far (R := RInt64S) (g := w.heap.size + 1 + 1) (o := 2) (u := .slice A2 e.p.length n2) o1 (by omega)
  replace o2 := rep_far (R := RStringS) (g := w.heap.size + 1 + 1) (o := 2) (u := .slice A2 e.p.length n2) o2 (by omega)
  have R3 := R2a.set (o := 2) (.slice A2 e.p.length n2) (by simp)
  have Z3 := Z2a.set_other (g := w.heap.size + 1 + 1) (o := 2) (.slice A2 e.p.length n2) (by omega)
  have Y3 := Y2a.set_other (g := w.heap.size + 1 + 1) (o := 2) (.slice A2 e.p.length n2) (by omega)
  have F3 := fun o => (setCell_frozen w5 ⟨w.heap.size + 1 + 1, 2, none⟩ ⟨w.heap.size + 1, o, none⟩ (.slice A2 e.p.length n2)).trans (F2a o)
  have G3 := fun o => (setCell_frozen w5 ⟨w.heap.size + 1 + 1, 2, none⟩ ⟨w.heap.size + 1 + 1, o, none⟩ (.slice A2 e.p.length n2)).trans (G2a o)
  clear R2a Z2a Y2a F2a G2a Bn z
  have y3 : (w5.setCell ⟨w.heap.size + 1 + 1, 2, none⟩ (.slice A2 e.p.length n2)).heap.size = w5.heap.size := setCell_size _ _ _
  generalize (w5.setCell ⟨w.heap.size + 1 + 1, 2, none⟩ (.slice A2 e.p.length n2)) = w6 at *
  refine (T3.out w6 B3).mono ?_; rintro r w7 ⟨v3, rfl, o3, hb⟩
  have z : w.heap.size + 3 ≤ w7.heap.size := Nat.le_trans z3 hb.size
  have Bn : Below w.heap.size w w7 := B3.trans (hb.mono (by omega))
  have x3 := hb.size
  replace o0 := Rep.keep (R := RDscS) o0 hb
  replace o1 := Rep.keep (R := RInt64S) o1 hb
  replace o2 := Rep.keep (R := RStringS) o2 hb
  have R3a := R3.below hb (by omega)
  have Z3a := Z3.below hb (by omega)
  have Y3a := Y3.below hb (by omega)
  have F3a := frozen_below F3 hb (by omega)
  have G3a := frozen_below G3 hb (by omega)
  clear R3 Z3 Y3 F3 G3 hb
  obtain ⟨A3, n3, rfl, _⟩ := OwnL.shape o3.1
  have k0 := R3a 0 _ rfl
  have y0 := Z3a 0 _ rfl
  have k1 := R3a 1 _ rfl
  have y1 := Z3a 1 _ rfl
  have k2 := R3a 2 _ rfl
  have y2 := Z3a 2 _ rfl
  have k3 := R3a 3 _ rfl
  have y3 := Z3a 3 _ rfl
  have fa := F3a
  have ga := G3a
  go_wp2
  have B4 : Below w.heap.size w (w7.setCell ⟨w.heap.size + 1 + 1, 3, none⟩ (.slice A3 e.q.length n3)) := Below.setCell Bn (by show w.heap.size ≤ w.heap.size + 1 + 1; omega) _
  replace o0 := rep_far (R := RDscS) (g := w.heap.size + 1 + 1) (o := 3) (u := .slice A3 e.q.length n3) o0 (by omega)
  replace o1 := rep_far (R := RInt64S) (g := w.heap.size + 1 + 1) (o := 3) (u := .slice A3 e.q.length n3) o1 (by omega)
  replace o2 := rep_far (R := RStringS) (g := w.heap.size + 1 + 1) (o := 3) (u := .slice A3 e.q.length n3) o2 (by omega)
  replace o3 := rep_far (R := RStringS) (g := w.heap.size + 1 + 1) (o := 3) (u := .slice A3 e.q.length n3) o3 (by omega)
  have Z4 := Z3a.set_other (g := w.heap.size + 1 + 1) (o := 3) (.slice A3 e.q.length n3) (by omega)
  clear k0 k1 k2 k3 y0 y1 y2 y3 fa ga R3a Z3a Y3a F3a G3a Bn
  have y4 : (w7.setCell ⟨w.heap.size + 1 + 1, 3, none⟩ (.slice A3 e.q.length n3)).heap.size = w7.heap.size := setCell_size _ _ _
  generalize (w7.setCell ⟨w.heap.size + 1 + 1, 3, none⟩ (.slice A3 e.q.length n3)) = W at *
  replace B4 := Below.setCell B4 (p := ⟨w.heap.size + 1, 0, none⟩) (by show w.heap.size ≤ w.heap.size + 1; omega) (.slice A0 e.ds.length n0)
  replace o0 := rep_far (R := RDscS) (g := w.heap.size + 1) (o := 0) (u := .slice A0 e.ds.length n0) o0 (by omega)
  replace o1 := rep_far (R := RInt64S) (g := w.heap.size + 1) (o := 0) (u := .slice A0 e.ds.length n0) o1 (by omega)
  replace o2 := rep_far (R := RStringS) (g := w.heap.size + 1) (o := 0) (u := .slice A0 e.ds.length n0) o2 (by omega)
  replace o3 := rep_far (R := RStringS) (g := w.heap.size + 1) (o := 0) (u := .slice A0 e.ds.length n0) o3 (by omega)
  replace Z4 := Z4.set (o := 0) (.slice A0 e.ds.length n0) (by simp)
  replace B4 := Below.setCell B4 (p := ⟨w.heap.size + 1, 1, none⟩) (by show w.heap.size ≤ w.heap.size + 1; omega) (.slice A1 e.cr.length n1)
  replace o0 := rep_far (R := RDscS) (g := w.heap.size + 1) (o := 1) (u := .slice A1 e.cr.length n1) o0 (by omega)
  replace o1 := rep_far (R := RInt64S) (g := w.heap.size + 1) (o := 1) (u := .slice A1 e.cr.length n1) o1 (by omega)
  replace o2 := rep_far (R := RStringS) (g := w.heap.size + 1) (o := 1) (u := .slice A1 e.cr.length n1) o2 (by omega)
  replace o3 := rep_far (R := RStringS) (g := w.heap.size + 1) (o := 1) (u := .slice A1 e.cr.length n1) o3 (by omega)
  replace Z4 := Z4.set (o := 1) (.slice A1 e.cr.length n1) (by simp)
  replace B4 := Below.setCell B4 (p := ⟨w.heap.size + 1, 2, none⟩) (by show w.heap.size ≤ w.heap.size + 1; omega) (.slice A2 e.p.length n2)
  replace o0 := rep_far (R := RDscS) (g := w.heap.size + 1) (o := 2) (u := .slice A2 e.p.length n2) o0 (by omega)
  replace o1 := rep_far (R := RInt64S) (g := w.heap.size + 1) (o := 2) (u := .slice A2 e.p.length n2) o1 (by omega)
  replace o2 := rep_far (R := RStringS) (g := w.heap.size + 1) (o := 2) (u := .slice A2 e.p.length n2) o2 (by omega)
  replace o3 := rep_far (R := RStringS) (g := w.heap.size + 1) (o := 2) (u := .slice A2 e.p.length n2) o3 (by omega)
  replace Z4 := Z4.set (o := 2) (.slice A2 e.p.length n2) (by simp)
  replace B4 := Below.setCell B4 (p := ⟨w.heap.size + 1, 3, none⟩) (by show w.heap.size ≤ w.heap.size + 1; omega) (.slice A3 e.q.length n3)
  replace o0 := rep_far (R := RDscS) (g := w.heap.size + 1) (o := 3) (u := .slice A3 e.q.length n3) o0 (by omega)
  replace o1 := rep_far (R := RInt64S) (g := w.heap.size + 1) (o := 3) (u := .slice A3 e.q.length n3) o1 (by omega)
  replace o2 := rep_far (R := RStringS) (g := w.heap.size + 1) (o := 3) (u := .slice A3 e.q.length n3) o2 (by omega)
  replace o3 := rep_far (R := RStringS) (g := w.heap.size + 1) (o := 3) (u := .slice A3 e.q.length n3) o3 (by omega)
  replace Z4 := Z4.set (o := 3) (.slice A3 e.q.length n3) (by simp)
  have s0 := Z4 0 _ rfl
  have s1 := Z4 1 _ rfl
  have s2 := Z4 2 _ rfl
  have s3 := Z4 3 _ rfl
  have y5 : (((((W.setCell ⟨w.heap.size + 1, 0, none⟩ (.slice A0 e.ds.length n0)).setCell ⟨w.heap.size + 1, 1, none⟩ (.slice A1 e.cr.length n1)).setCell ⟨w.heap.size + 1, 2, none⟩ (.slice A2 e.p.length n2)).setCell ⟨w.heap.size + 1, 3, none⟩ (.slice A3 e.q.length n3))).heap.size = W.heap.size := by simp only [setCell_size]
  refine bodyPost_ret (v := evV (.slice A0 e.ds.length n0) (.slice A1 e.cr.length n1) (.slice A2 e.p.length n2) (.slice A3 e.q.length n3)) (by simp [results, Tryz.results12, go_sem, s0, s1, s2, s3]; try done) rfl ⟨_, _, _, _, rfl, ⟨_, _, _, _, _, _, _, _, ?_, ?_, ?_, ?_, ?_, ?_, ?_, ?_, ?_, ?_, ?_, ?_, ?_, ?_, o0, o1, o2, o3⟩, B4⟩
  all_goals first | omega | (rw [y5]; omega)
end Go.Proofs.YtfcdienphillnaaGreat
namespace Go.Proofs.YtfcdienphillnaaGreat
set_option linter.unusedVariables false
set_option linter.unusedSimpArgs false
open Go.RowKit
def evC (e : Evd) : Nat := RDscS.cnt e.ds + RInt64S.cnt e.cr + RStringS.cnt e.p + RStringS.cnt e.q
set_option maxRecDepth 20000 in
set_option maxHeartbeats 4000000 in
theorem markEvd (e : Evd) (va vb vc vd : Value) (k0 B E : Nat) (w : World) (h : EvT B E w e va vb vc vd) (hE : E ≤ w.heap.size) (h1 : RDscS.wt e.ds ≤ 1048576) (h2 : e.cr.length ≤ 1048576) (h3 : e.p.length ≤ 1048576) (h4 : e.q.length ≤ 1048576) (hc0 : RDscS.cnt e.ds ≤ 8388608) (h0 : 1 ≤ k0) (hk : k0 ≤ 8388608) :
    Calls Tryz.prog 24 #[evV va vb vc vd, .int .i64 k0] w fun r w' => r = .returned (.int .i64 ((k0 + evC e : Nat) : Int)) ∧ Chg B E w w' := by
  obtain ⟨A, n, B', k', C, i, D, j, rfl, rfl, rfl, rfl⟩ := h.own.shape
  have HB : Below w.heap.size w (w.alloc (.cells #[.slice A e.ds.length n, .slice B' e.cr.length k', .slice C e.p.length i, .slice D e.q.length j] 39)) := Below.alloc (Below.refl _ _) (Nat.le_refl _) _
  have R0 : Row (w.alloc (.cells #[.slice A e.ds.length n, .slice B' e.cr.length k', .slice C e.p.length i, .slice D e.q.length j] 39)) w.heap.size [.slice A e.ds.length n, .slice B' e.cr.length k', .slice C e.p.length i, .slice D e.q.length j] := Row.alloc w _ _
  have hz : w.heap.size < (w.alloc (.cells #[.slice A e.ds.length n, .slice B' e.cr.length k', .slice C e.p.length i, .slice D e.q.length j] 39)).heap.size := by simp
  obtain ⟨b0, e0, b1, e1, b2, e2, b3, e3, g1, g2, g3, g4, g5, g6, g7, g8, g9, g10, g11, g12, g13, g14, o0, o1, o2, o3⟩ := h.below HB
  have HC0 : Hid (Chg B E w (w.alloc (.cells #[.slice A e.ds.length n, .slice B' e.cr.length k', .slice C e.p.length i, .slice D e.q.length j] 39))) := Lib.hid (Chg.of_below HB)
  have HM0 := Lib.hid (r_markDscS e.ds _ k0 _ _ _ o0 h1 h0 (by omega))
  have x0 := R0 0 _ rfl
  have p2 : RInt64S.cnt e.cr ≤ 1048576 := by show e.cr.length * 1 ≤ _; omega
  have p3 : RStringS.cnt e.p ≤ 1048576 := by show e.p.length * 1 ≤ _; omega
  have p4 : RStringS.cnt e.q ≤ 1048576 := by show e.q.length * 1 ≤ _; omega
  have hev : Hid (k0 + RDscS.cnt e.ds + RInt64S.cnt e.cr + RStringS.cnt e.p + RStringS.cnt e.q = k0 + evC e) := Lib.hid (by unfold evC; omega)
  generalize RDscS.cnt e.ds = c0 at *
  have HR := Lib.hid R0
  have H1 := Lib.hid o1
  have H2 := Lib.hid o2
  have H3 := Lib.hid o3
  clear h HB R0 o0 o1 o2 o3
  go_enter Tryz.func24, Tryz.ntmps24
  go_wp2_with (fail)
  generalize (w.alloc (.cells #[.slice A e.ds.length n, .slice B' e.cr.length k', .slice C e.p.length i, .slice D e.q.length j] 39)) = w0 at *
  refine HM0.out.mono ?_; rintro r w1 ⟨rfl, _, hc⟩
  have x1 := (HR.out.chg hc hz (.inr (by omega))) 1 _ rfl
  have HRa := Lib.hid (HR.out.chg hc hz (.inr (by omega)))
  have HCa := Lib.hid (HC0.out.trans (hc.mono g1 g5))
  have H1a := Lib.hid (RInt64S.chg H1.out hc (.inr (by omega)))
  have H2a := Lib.hid (RStringS.chg H2.out hc (.inr (by omega)))
  have H3a := Lib.hid (RStringS.chg H3.out hc (.inr (by omega)))
  have hza := Nat.lt_of_lt_of_le hz hc.size
  have HM1 := Lib.hid (r_markInt64S e.cr _ (k0 + c0) _ _ _ H1a.out (by omega) (by omega) (by omega))
  clear x0 HM0 HR HC0 H1 H2 H3 H1a hc
  go_wp2_with (fail)
  refine HM1.out.mono ?_; rintro r w2 ⟨rfl, _, hc⟩
  have x2 := (HRa.out.chg hc hza (.inr (by omega))) 2 _ rfl
  have HRb := Lib.hid (HRa.out.chg hc hza (.inr (by omega)))
  have HCb := Lib.hid (HCa.out.trans (hc.mono g2 g6))
  have H2b := Lib.hid (RStringS.chg H2a.out hc (.inr (by omega)))
  have H3b := Lib.hid (RStringS.chg H3a.out hc (.inr (by omega)))
  have hzb := Nat.lt_of_lt_of_le hza hc.size
  have HM2 := Lib.hid (r_markStringS e.p _ (k0 + c0 + RInt64S.cnt e.cr) _ _ _ H2b.out (by omega) (by omega) (by omega))
  clear x1 HM1 HRa HCa H2a H3a H2b hc
  go_wp2_with (fail)
  refine HM2.out.mono ?_; rintro r w3 ⟨rfl, _, hc⟩
  have x3 := (HRb.out.chg hc hzb (.inr (by omega))) 3 _ rfl
  have HCc := Lib.hid (HCb.out.trans (hc.mono g3 g7))
  have H3c := Lib.hid (RStringS.chg H3b.out hc (.inr (by omega)))
  have HM3 := Lib.hid (r_markStringS e.q _ (k0 + c0 + RInt64S.cnt e.cr + RStringS.cnt e.p) _ _ _ H3c.out (by omega) (by omega) (by omega))
  clear x2 HM2 HRb HCb H3b H3c hc
  go_wp2_with (fail)
  refine HM3.out.mono ?_; rintro r w4 ⟨rfl, _, hc⟩
  have HCd := Lib.hid (HCc.out.trans (hc.mono g4 g8))
  rw [hev.out]
  clear x3 HM3 HCc hc
  go_wp2
  go_ret
  exact ⟨rfl, HCd.out⟩
end Go.Proofs.YtfcdienphillnaaGreat
namespace Go.Proofs.YtfcdienphillnaaGreat
set_option linter.unusedVariables false
set_option linter.unusedSimpArgs false
open Go.RowKit
abbrev Four (a b c d : Value) (g : Nat) (w : World) : Prop := w.cell? ⟨g, 0, none⟩ = some a ∧ w.cell? ⟨g, 1, none⟩ = some b ∧ w.cell? ⟨g, 2, none⟩ = some c ∧ w.cell? ⟨g, 3, none⟩ = some d
theorem Row.four {w : World} {g : Nat} {a b c d : Value} (h : Row w g [a, b, c, d]) : Four a b c d g w := ⟨h 0 _ rfl, h 1 _ rfl, h 2 _ rfl, h 3 _ rfl⟩
/-- the bounds that the size of evidence gives -/
theorem evZ_small {e : Evd} {x : Int} (hx : x ≤ 1048576) (h : ¬ evZ x e < 0) : e.ds.length + Dsc.wts e.ds ≤ 1048576 ∧ e.cr.length ≤ 1048576 ∧ e.p.length + swts e.p ≤ 1048576 ∧ e.q.length + swts e.q ≤ 1048576 := by
  unfold evZ at h
  have hl : ∀ {y : Int} {n : Nat}, ¬ szR y n < 0 → (n : Int) ≤ y ∧ szR y n = y - n := fun {y n} h => by
    have h1 : (n : Int) ≤ y := by rw [szR_neg] at h; omega
    exact ⟨h1, szR_yes h1⟩
  obtain ⟨h4, e4⟩ := hl h
  obtain ⟨h3, e3⟩ := hl (y := szR (szR x (e.ds.length + Dsc.wts e.ds)) e.cr.length) (n := e.p.length + swts e.p) (by omega)
  obtain ⟨h2, e2⟩ := hl (y := szR x (e.ds.length + Dsc.wts e.ds)) (n := e.cr.length) (by omega)
  obtain ⟨h1, e1⟩ := hl (y := x) (n := e.ds.length + Dsc.wts e.ds) (by omega)
  omega
theorem ev_small {w : World} {e : Evd} {a b c d : Value} (h : EvIn w e a b c d) (hw : e.ds.length + Dsc.wts e.ds ≤ 1048576 ∧ e.cr.length ≤ 1048576 ∧ e.p.length + swts e.p ≤ 1048576 ∧ e.q.length + swts e.q ≤ 1048576) : EvSmall e where
  ds := by omega
  secs := fun x hx => by
    have h1 := Dsc.wts_le hx
    have h2 : x.wt = x.secs.length + Sec.wts x.secs := rfl
    omega
  data := by
    obtain ⟨_, _, _, _, hA⟩ := h.ds
    rcases hA with hA | ⟨b, o, _, _, hc⟩
    · intro x hx; rw [hA] at hx; cases hx
    · intro x hx
      obtain ⟨k, hk⟩ := List.getElem?_of_mem hx
      obtain ⟨bv, hs, _⟩ := hc k x hk
      exact hs.2
  cr := by omega
  p := by omega
  q := by omega
  ps := h.p.2
  qs := h.q.2
theorem Row.one {w : World} {b : Nat} {v : Value} (h : Row w b [v]) : w.cell? ⟨b, 0, none⟩ = some v := h 0 _ rfl
theorem los_rep {L : List Int} {K : Int} {fn : FuncId} {args : Array Value} {w : World} (h : Calls Tryz.prog fn args w fun r w' => ∃ v, r = .returned (.tuple #[v, .int .i64 K]) ∧ Int64L w.heap.size w' v L ∧ Below w.heap.size w w') :
    Calls Tryz.prog fn args w fun r w' => ∃ v, r = .returned (.tuple #[v, .int .i64 K]) ∧ RInt64S.own w.heap.size w'.heap.size w' v L ∧ Below w.heap.size w w' :=
  h.mono fun _ _ ⟨v, h1, h2, h3⟩ => ⟨v, h1, ⟨h2, fun g hg => (World.ownsRow.lt h2 g hg).2⟩, h3⟩
theorem evC_le {e : Evd} (hw : e.ds.length + Dsc.wts e.ds ≤ 1048576 ∧ e.cr.length ≤ 1048576 ∧ e.p.length + swts e.p ≤ 1048576 ∧ e.q.length + swts e.q ≤ 1048576) : evC e ≤ 7340032 ∧ RDscS.cnt e.ds ≤ 8388608 := by
  have h1 : RDscS.cnt e.ds ≤ 4 * (e.ds.length + Dsc.wts e.ds) := Dsc.cnts_le e.ds
  have h2 : RInt64S.cnt e.cr = e.cr.length * 1 := rfl
  have h3 : RStringS.cnt e.p = e.p.length * 1 := rfl
  have h4 : RStringS.cnt e.q = e.q.length * 1 := rfl
  unfold evC
  omega
end Go.Proofs.YtfcdienphillnaaGreat
namespace Go.Proofs.YtfcdienphillnaaGreat
set_option linter.unusedVariables false
set_option linter.unusedSimpArgs false
open Go.RowKit
structure LosW (w : World) (bd : Nat) (D5 : List Value) (x : Value) (S : List Sec) (M : Nat → Bool) (wx : World) (out : Value) (q : Nat) : Prop where
  bw : Below w.heap.size w wx
  l : Int64L w.heap.size wx out (fltN M q)
  d : Row wx bd D5
  s : SecOwn w.heap.size wx x S
  hd : out.ownBlock ≠ some bd
  hs : ∀ k, out.ownBlock = some k → x.ownBlock ≠ some k
  lt : bd < wx.heap.size
section
variable {w wx w' : World} {bd q : Nat} {D5 : List Value} {x out v' : Value} {S : List Sec} {M : Nat → Bool}
theorem LosW.below (h : LosW w bd D5 x S M wx out q) (hb : Below wx.heap.size wx w') : LosW w bd D5 x S M w' out q :=
  ⟨h.bw.trans (hb.mono h.bw.size), OwnL.below h.l hb, h.d.below hb h.lt, OwnL.below h.s hb, h.hd, h.hs, Nat.lt_of_lt_of_le h.lt hb.size⟩
theorem LosW.no (h : LosW w bd D5 x S M wx out q) (hM : M q = false) : LosW w bd D5 x S M wx out (q + 1) :=
  ⟨h.bw, by rw [← (flt_no (P := M) (n := q) (Lib.hid rfl) hM).out]; exact h.l, h.d, h.s, h.hd, h.hs, h.lt⟩
theorem LosW.app (h : LosW w bd D5 x S M wx out q) (hw : w.heap.size ≤ wx.heap.size) (hg : wx.grownBy w' out.ownBlock) (hl : Int64L w.heap.size w' v' (fltN M q ++ [(q : Int)])) (hat : v'.ownBlock = out.ownBlock ∨ v'.ownBlock = some wx.heap.size) (hM : M q = true) : LosW w bd D5 x S M w' v' (q + 1) :=
  ⟨h.bw.grown hg hw (fun k hk => (World.ownsRow.lt h.l k hk).1), by rw [← (flt_yes (P := M) (n := q) (Lib.hid rfl) hM).out]; exact hl, grown_row hg h.lt h.hd h.d, OwnL.kept h.s hg (sep_row h.hs), nob_at hat h.hd h.lt, fun k hk e0 => by
    rcases hat with e | e
    · exact h.hs k (e.symm.trans hk) e0
    · rw [hk] at e; injection e with e; have := (World.ownsRow.lt h.s k e0).2; omega, Nat.lt_of_lt_of_le h.lt hg.size⟩
theorem rdM_at {e : Evd} {k : Nat} {s : Sec} (h : (rdS e)[k]? = some s) : rdM e k = (s.state == 3) := by
  unfold rdM; rw [List.getD_eq_getElem?_getD, h]; rfl
end
end Go.Proofs.YtfcdienphillnaaGreat
namespace Go.Proofs
open Go.Shelf
def Tryz.sortR_ren : Go.Shelf.Ren := ⟨fun | 6 => 106 | 15 => 132 | 14 => 131 | 28 => 161 | 29 => 162 | 20 => 153 | 21 => 154 | 22 => 155 | 23 => 156 | 24 => 157 | 25 => 158 | 26 => 159 | 27 => 160 | 46 => 196 | 47 => 197 | 48 => 198 | 49 => 199 | 50 => 200 | 57 => 215 | n => n, fun | 22 => 45 | 24 => 83 | 25 => 141 | 3 => 3 | 39 => 150 | 0 => 0 | 53 => 199 | 55 => 143 | 4 => 4 | 46 => 192 | 45 => 191 | 50 => 196 | 5 => 5 | 9 => 9 | 66 => 243 | 70 => 247 | 76 => 258 | 77 => 259 | n => n, fun | n => n⟩
theorem Tryz.sortR : Go.Proofs.SlLaysF0.n6 Tryz.prog Tryz.sortR_ren := {
  mixed := by kernel_rfl
  f6 := ⟨Tryz.f106.name, by decide, Tryz.func106.trans (congrArg some (by kernel_rfl))⟩
  f14 := ⟨Tryz.f131.name, by decide, Tryz.func131.trans (congrArg some (by kernel_rfl))⟩
  f15 := Tryz.func132.trans (congrArg some (by kernel_rfl))
  f20 := ⟨Tryz.f153.name, by decide, Tryz.func153.trans (congrArg some (by kernel_rfl))⟩
  f21 := ⟨Tryz.f154.name, by decide, Tryz.func154.trans (congrArg some (by kernel_rfl))⟩
  f22 := ⟨Tryz.f155.name, by decide, Tryz.func155.trans (congrArg some (by kernel_rfl))⟩
  f23 := ⟨Tryz.f156.name, by decide, Tryz.func156.trans (congrArg some (by kernel_rfl))⟩
  f24 := ⟨Tryz.f157.name, by decide, Tryz.func157.trans (congrArg some (by kernel_rfl))⟩
  f25 := ⟨Tryz.f158.name, by decide, Tryz.func158.trans (congrArg some (by kernel_rfl))⟩
  f26 := ⟨Tryz.f159.name, by decide, Tryz.func159.trans (congrArg some (by kernel_rfl))⟩
  f27 := ⟨Tryz.f160.name, by decide, Tryz.func160.trans (congrArg some (by kernel_rfl))⟩
  f28 := Tryz.func161.trans (congrArg some (by kernel_rfl))
  f29 := Tryz.func162.trans (congrArg some (by kernel_rfl))
  f46 := ⟨Tryz.f196.name, by decide, Tryz.func196.trans (congrArg some (by kernel_rfl))⟩
  f47 := Tryz.func197.trans (congrArg some (by kernel_rfl))
  f48 := Tryz.func198.trans (congrArg some (by kernel_rfl))
  f49 := ⟨Tryz.f199.name, by decide, Tryz.func199.trans (congrArg some (by kernel_rfl))⟩
  f50 := ⟨Tryz.f200.name, by decide, Tryz.func200.trans (congrArg some (by kernel_rfl))⟩
  f57 := ⟨Tryz.f215.name, by decide, Tryz.func215.trans (congrArg some (by kernel_rfl))⟩
  t0 := Tryz.underlying0
  a0 := Tryz.isAgg0
  z0 := Tryz.sizeOf0
  v0 := Tryz.zeroValue0
  t3 := Tryz.underlying3
  a3 := Tryz.isAgg3
  z3 := Tryz.sizeOf3
  v3 := Tryz.zeroValue3
  t4 := Tryz.underlying4
  a4 := Tryz.isAgg4
  z4 := Tryz.sizeOf4
  v4 := Tryz.zeroValue4
  t5 := Tryz.underlying5
  a5 := Tryz.isAgg5
  z5 := Tryz.sizeOf5
  v5 := Tryz.zeroValue5
  t9 := Tryz.underlying9
  a9 := Tryz.isAgg9
  z9 := Tryz.sizeOf9
  v9 := Tryz.zeroValue9
  t22 := Tryz.underlying45
  a22 := Tryz.isAgg45
  z22 := Tryz.sizeOf45
  v22 := Tryz.zeroValue45
  t25 := Tryz.underlying141
  a25 := Tryz.isAgg141
  z25 := Tryz.sizeOf141
  v25 := Tryz.zeroValue141
  t39 := Tryz.underlying150
  a39 := Tryz.isAgg150
  z39 := Tryz.sizeOf150
  v39 := Tryz.zeroValue150
  t45 := Tryz.underlying191
  a45 := Tryz.isAgg191
  z45 := Tryz.sizeOf191
  v45 := Tryz.zeroValue191
  t46 := Tryz.underlying192
  a46 := Tryz.isAgg192
  z46 := Tryz.sizeOf192
  v46 := Tryz.zeroValue192
  t50 := Tryz.underlying196
  a50 := Tryz.isAgg196
  z50 := Tryz.sizeOf196
  v50 := Tryz.zeroValue196
  t53 := Tryz.underlying199
  a53 := Tryz.isAgg199
  z53 := Tryz.sizeOf199
  v53 := Tryz.zeroValue199
  t55 := Tryz.underlying143
  a55 := Tryz.isAgg143
  z55 := Tryz.sizeOf143
  v55 := Tryz.zeroValue143
  t66 := Tryz.underlying243
  a66 := Tryz.isAgg243
  z66 := Tryz.sizeOf243
  v66 := Tryz.zeroValue243
  t70 := Tryz.underlying247
  a70 := Tryz.isAgg247
  z70 := Tryz.sizeOf247
  v70 := Tryz.zeroValue247
  t76 := Tryz.underlying258
  a76 := Tryz.isAgg258
  z76 := Tryz.sizeOf258
  v76 := Tryz.zeroValue258
  t77 := Tryz.underlying259
  a77 := Tryz.isAgg259
  z77 := Tryz.sizeOf259
  v77 := Tryz.zeroValue259 }
end Go.Proofs
