/- The walk of FnExactSameMerge. -/
import Derived.Test.YtignjjkldmninaaSMergeC
import Derived.Deep.RegionHeld3
namespace Go.Proofs.Ytignjjkldmninaa
set_option linter.unusedVariables false
open Go.RowKit
abbrev mrgL (m : Mrg) (x y z : Value) : List Value := [.int .i64 m.d.cyl, .int .i64 m.d.heads, .int .i64 m.d.per, .int .i64 m.d.size, x, y, z]
abbrev Seven (m : Mrg) (x y z : Value) (b : Nat) (w : World) : Prop := w.cell? ⟨b, 0, none⟩ = some (.int .i64 m.d.cyl) ∧ w.cell? ⟨b, 1, none⟩ = some (.int .i64 m.d.heads) ∧ w.cell? ⟨b, 2, none⟩ = some (.int .i64 m.d.per) ∧ w.cell? ⟨b, 3, none⟩ = some (.int .i64 m.d.size) ∧ w.cell? ⟨b, 4, none⟩ = some x ∧ w.cell? ⟨b, 5, none⟩ = some y ∧ w.cell? ⟨b, 6, none⟩ = some z
theorem Row.seven {w : World} {b : Nat} {m : Mrg} {x y z : Value} (h : Row w b (mrgL m x y z)) : Seven m x y z b w := ⟨h 0 _ rfl, h 1 _ rfl, h 2 _ rfl, h 3 _ rfl, h 4 _ rfl, h 5 _ rfl, h 6 _ rfl⟩
theorem szR_le_of {x : Int} {n : Nat} (h : ¬ szR x n < 0) : (n : Int) ≤ x := by rw [szR_neg] at h; omega
theorem mrgZ_small {x : Int} {m : Mrg} (hx : x ≤ 1048576) (h : ¬ mrgZ x m < 0) : m.d.secs.length ≤ 1048576 ∧ m.fr.length ≤ 1048576 ∧ m.ag.length ≤ 1048576 ∧ (0 ≤ mrgZ x m ∧ mrgZ x m ≤ 1048576) := by
  unfold mrgZ at h
  have h3 := szR_le_of h
  have e3 : mrgZ x m = szR (szR x m.d.wt) m.fr.length - m.ag.length := by unfold mrgZ; exact szR_yes h3
  have h2 : ((m.fr.length : Nat) : Int) ≤ szR x m.d.wt := szR_le_of (by omega)
  have e2 := szR_yes h2
  have h1 : ((m.d.wt : Nat) : Int) ≤ x := szR_le_of (by omega)
  have e1 := szR_yes h1
  have : m.d.wt = m.d.secs.length + Sec.wts m.d.secs := rfl
  omega
set_option maxRecDepth 20000 in
set_option maxHeartbeats 8000000 in
theorem walkFnExactSameMerge (m n : Mrg) (w : World) {bv fv av bv' fv' av' : Value} (h : MrgIn w m bv fv av) (h' : MrgIn w n bv' fv' av') :
    Calls Try.prog 4 #[mrgV m bv fv av, mrgV n bv' fv' av'] w fun e w' => e = .returned (.bool true) ∧ Below w.heap.size w w' := by
  have H1 := Lib.hid h
  have H2 := Lib.hid h'
  obtain ⟨⟨⟨A, c, e1, _, _⟩, _⟩, ⟨A1, c1, e2, _, _⟩, ⟨A2, c2, e3, _, _⟩⟩ := h
  obtain ⟨⟨⟨A', c', e4, _, _⟩, _⟩, ⟨A1', c1', e5, _, _⟩, ⟨A2', c2', e6, _, _⟩⟩ := h'
  subst e1 e2 e3 e4 e5 e6
  have B0 : Below w.heap.size w ((w.alloc (.cells #[.int .i64 m.d.cyl, .int .i64 m.d.heads, .int .i64 m.d.per, .int .i64 m.d.size, .slice A m.d.secs.length c, .slice A1 m.fr.length c1, .slice A2 m.ag.length c2] 34)).alloc (.cells #[.int .i64 n.d.cyl, .int .i64 n.d.heads, .int .i64 n.d.per, .int .i64 n.d.size, .slice A' n.d.secs.length c', .slice A1' n.fr.length c1', .slice A2' n.ag.length c2'] 34)) := (by repeat (first | exact Below.refl _ _ | refine Below.alloc ?_ (by first | omega | (simp; done) | (simp; omega)) _ | apply Below.drew | apply below_drewN | refine Below.setCell ?_ (by first | omega | (simp; done) | (simp; omega)) _ | refine Below.trans ?_ (Below.mono (by assumption) (by first | omega | (simp; done) | (simp; omega)))))
  have z0 : w.heap.size + 2 ≤ (((w.alloc (.cells #[.int .i64 m.d.cyl, .int .i64 m.d.heads, .int .i64 m.d.per, .int .i64 m.d.size, .slice A m.d.secs.length c, .slice A1 m.fr.length c1, .slice A2 m.ag.length c2] 34)).alloc (.cells #[.int .i64 n.d.cyl, .int .i64 n.d.heads, .int .i64 n.d.per, .int .i64 n.d.size, .slice A' n.d.secs.length c', .slice A1' n.fr.length c1', .slice A2' n.ag.length c2'] 34))).heap.size := by simp
  have Rn0 : Row ((w.alloc (.cells #[.int .i64 m.d.cyl, .int .i64 m.d.heads, .int .i64 m.d.per, .int .i64 m.d.size, .slice A m.d.secs.length c, .slice A1 m.fr.length c1, .slice A2 m.ag.length c2] 34)).alloc (.cells #[.int .i64 n.d.cyl, .int .i64 n.d.heads, .int .i64 n.d.per, .int .i64 n.d.size, .slice A' n.d.secs.length c', .slice A1' n.fr.length c1', .slice A2' n.ag.length c2'] 34)) (w.heap.size + 1) (mrgL n (.slice A' n.d.secs.length c') (.slice A1' n.fr.length c1') (.slice A2' n.ag.length c2')) := by simpa using Row.alloc (w.alloc (.cells #[.int .i64 m.d.cyl, .int .i64 m.d.heads, .int .i64 m.d.per, .int .i64 m.d.size, .slice A m.d.secs.length c, .slice A1 m.fr.length c1, .slice A2 m.ag.length c2] 34)) #[.int .i64 n.d.cyl, .int .i64 n.d.heads, .int .i64 n.d.per, .int .i64 n.d.size, .slice A' n.d.secs.length c', .slice A1' n.fr.length c1', .slice A2' n.ag.length c2'] 34
  have Rm0 : Row ((w.alloc (.cells #[.int .i64 m.d.cyl, .int .i64 m.d.heads, .int .i64 m.d.per, .int .i64 m.d.size, .slice A m.d.secs.length c, .slice A1 m.fr.length c1, .slice A2 m.ag.length c2] 34)).alloc (.cells #[.int .i64 n.d.cyl, .int .i64 n.d.heads, .int .i64 n.d.per, .int .i64 n.d.size, .slice A' n.d.secs.length c', .slice A1' n.fr.length c1', .slice A2' n.ag.length c2'] 34)) w.heap.size (mrgL m (.slice A m.d.secs.length c) (.slice A1 m.fr.length c1) (.slice A2 m.ag.length c2)) := (Row.alloc w #[.int .i64 m.d.cyl, .int .i64 m.d.heads, .int .i64 m.d.per, .int .i64 m.d.size, .slice A m.d.secs.length c, .slice A1 m.fr.length c1, .slice A2 m.ag.length c2] 34).below (Below.alloc (Below.refl _ _) (Nat.le_refl _) _) (by simp)
  have HZ := Lib.hid (szMrg m (.slice A m.d.secs.length c) (.slice A1 m.fr.length c1) (.slice A2 m.ag.length c2) 1048576 ((w.alloc (.cells #[.int .i64 m.d.cyl, .int .i64 m.d.heads, .int .i64 m.d.per, .int .i64 m.d.size, .slice A m.d.secs.length c, .slice A1 m.fr.length c1, .slice A2 m.ag.length c2] 34)).alloc (.cells #[.int .i64 n.d.cyl, .int .i64 n.d.heads, .int .i64 n.d.per, .int .i64 n.d.size, .slice A' n.d.secs.length c', .slice A1' n.fr.length c1', .slice A2' n.ag.length c2'] 34)) (H1.out.below B0) ⟨by omega, by omega⟩)
  by_cases q1 : mrgZ 1048576 m < 0
  · generalize mrgZ 1048576 m = x at *
    have d1 : decide (x < 0) = true := by simpa using q1
    go_enter Try.func4, Try.ntmps4
    go_wp2_with (fail)
    refine HZ.out.mono ?_; rintro e w1 ⟨rfl, hb1⟩
    go_wp2
    go_ret
    exact ⟨rfl, B0.trans (hb1.mono (by omega))⟩
  obtain ⟨nd1, nf1, na1, hx⟩ := mrgZ_small (m := m) (by omega) q1
  generalize mrgZ 1048576 m = x at *
  have d1 : decide (x < 0) = false := by simpa using q1
  have HZn := Lib.hid (fun (w' : World) (hb : Below w.heap.size w w') => szMrg n (.slice A' n.d.secs.length c') (.slice A1' n.fr.length c1') (.slice A2' n.ag.length c2') x w' (H2.out.below hb) hx)
  by_cases q2 : mrgZ x n < 0
  · generalize mrgZ x n = y at *
    have d2 : decide (y < 0) = true := by simpa using q2
    go_enter Try.func4, Try.ntmps4
    go_wp2_with (fail)
    refine HZ.out.mono ?_; rintro e w1 ⟨rfl, hb1⟩
    have B1 := B0.trans (hb1.mono (by omega))
    have Rn1 := Rn0.below hb1 (by omega)
    obtain ⟨k0, k1, k2, k3, k4, k5, k6⟩ := Rn1.seven
    go_wp2_with (fail)
    refine (HZn.out w1 B1).mono ?_; rintro e w2 ⟨rfl, hb2⟩
    go_wp2
    go_ret
    exact ⟨rfl, B1.trans (hb2.mono B1.size)⟩
  obtain ⟨nd2, nf2, na2, _⟩ := mrgZ_small (m := n) hx.2 q2
  generalize mrgZ x n = y at *
  have d2 : decide (y < 0) = false := by simpa using q2
  have Tm := Lib.hid (fun (w' : World) (hb : Below w.heap.size w w') => toMrg m _ _ _ w' (H1.out.below hb) nd1 nf1 na1)
  have Tn := Lib.hid (fun (w' : World) (hb : Below w.heap.size w w') => toMrg n _ _ _ w' (H2.out.below hb) nd2 nf2 na2)
  have sM : MrgSmall m := ⟨by omega, by omega, by omega⟩
  have sN : MrgSmall n := ⟨by omega, by omega, by omega⟩
  clear H1 H2
  go_enter Try.func4, Try.ntmps4
  go_wp2_with (fail)
  refine HZ.out.mono ?_; rintro e w1 ⟨rfl, hb1⟩
  have B1 := B0.trans (hb1.mono (by omega))
  have z1 : w.heap.size + 2 ≤ w1.heap.size := Nat.le_trans z0 hb1.size
  have Rn1 := Rn0.below hb1 (by omega)
  have Rm1 := Rm0.below hb1 (by omega)
  clear Rn0 Rm0 hb1 HZ z0 B0
  obtain ⟨k0, k1, k2, k3, k4, k5, k6⟩ := Rn1.seven
  go_wp2_with (fail)
  refine (HZn.out w1 B1).mono ?_; rintro e w2 ⟨rfl, hb2⟩
  have B2 := B1.trans (hb2.mono B1.size)
  have z2 : w.heap.size + 2 ≤ w2.heap.size := Nat.le_trans z1 hb2.size
  have Rn2 := Rn1.below hb2 (by omega)
  have Rm2 := Rm1.below hb2 (by omega)
  clear Rn1 Rm1 hb2 HZn k0 k1 k2 k3 k4 k5 k6 B1 z1
  go_wp2_with (fail)
  have B2d := B2.drew
  have Rn2d := Rn2.below (Below.refl _ _).drew (by omega)
  have Rm2d := Rm2.below (Below.refl _ _).drew (by omega)
  go_region_held3 (fun w' => Seven m (.slice A m.d.secs.length c) (.slice A1 m.fr.length c1) (.slice A2 m.ag.length c2) w.heap.size w' ∧ Seven n (.slice A' n.d.secs.length c') (.slice A1' n.fr.length c1') (.slice A2' n.ag.length c2') (w.heap.size + 1) w')
    (first | exact ⟨Rm2d.seven, Rn2d.seven⟩ | exact ⟨(Rm2d.below hb3 (by show w.heap.size < w2.heap.size; omega)).seven, (Rn2d.below hb3 (by show w.heap.size + 1 < w2.heap.size; omega)).seven⟩ | exact ⟨((Rm2d.below hb3 (by show w.heap.size < w2.heap.size; omega)).below hb4 (by have : w2.heap.size ≤ w3.heap.size := hb3.size; omega)).seven, ((Rn2d.below hb3 (by show w.heap.size + 1 < w2.heap.size; omega)).below hb4 (by have : w2.heap.size ≤ w3.heap.size := hb3.size; omega)).seven⟩ | exact ⟨(((Rm2d.below hb3 (by show w.heap.size < w2.heap.size; omega)).below hb4 (by have : w2.heap.size ≤ w3.heap.size := hb3.size; omega)).below hb5 (by have : w2.heap.size ≤ w3.heap.size := hb3.size; have := hb4.size; omega)).seven, (((Rn2d.below hb3 (by show w.heap.size + 1 < w2.heap.size; omega)).below hb4 (by have : w2.heap.size ≤ w3.heap.size := hb3.size; omega)).below hb5 (by have : w2.heap.size ≤ w3.heap.size := hb3.size; have := hb4.size; omega)).seven⟩)
    (first
      | (go_at_call 22; refine (mrg_s m n _ _ _ (o3.below hb4) o4 sM sN).mono ?_; rintro e w5 ⟨rfl, hb5⟩)
      | (go_at_call 23; refine (Tn.out w3 (B2d.trans (hb3.mono B2d.size))).mono ?_; rintro e w4 ⟨A4, c4, A41, c41, A42, c42, rfl, o4, hb4⟩)
      | (go_at_call 23; refine (Tm.out _ B2d).mono ?_; rintro e w3 ⟨A3, c3, A31, c31, A32, c32, rfl, o3, hb3⟩))
  replace hb3 : Below w2.heap.size w2 w3 := ((Below.refl w2.heap.size w2).drew).trans hb3
  have z3 : w2.heap.size ≤ w3.heap.size := hb3.size
  have z4 : w3.heap.size ≤ w4.heap.size := hb4.size
  have z5 : w4.heap.size ≤ w5.heap.size := hb5.size
  have B5 : Below w.heap.size w w5 := ((B2.trans (hb3.mono (by omega))).trans (hb4.mono (by omega))).trans (hb5.mono (by omega))
  have Rm5 := ((Rm2.below hb3 (by omega)).below hb4 (by omega)).below hb5 (by omega)
  have Rn5 := ((Rn2.below hb3 (by omega)).below hb4 (by omega)).below hb5 (by omega)
  have zz5 : w.heap.size + 2 ≤ w5.heap.size := by omega
  clear Rm2 Rn2 Rm2d Rn2d B2 B2d hb3 hb4 hb5 o3 o4 z3 z4 z5 z2
  obtain ⟨k0, k1, k2, k3, k4, k5, k6⟩ := Rm5.seven
  go_wp2_with (fail)
  refine (Tm.out w5 B5).mono ?_; rintro e w6 ⟨A6, c6, A61, c61, A62, c62, rfl, o6, hb6⟩
  clear k0 k1 k2 k3 k4 k5 k6
  have z6 : w5.heap.size ≤ w6.heap.size := hb6.size
  have B6 : Below w.heap.size w w6 := B5.trans (hb6.mono (by omega))
  have Rn6 := Rn5.below hb6 (by omega)
  have Rm6 := Rm5.below hb6 (by omega)
  have HA6 : Below w6.heap.size w6 (w6.alloc (.cells #[.int .i64 m.d.cyl, .int .i64 m.d.heads, .int .i64 m.d.per, .int .i64 m.d.size, .slice A6 m.d.secs.length c6, .slice A61 m.fr.length c61, .slice A62 m.ag.length c62] 41)) := Below.alloc (Below.refl _ _) (Nat.le_refl _) _
  have B6' : Below w.heap.size w (w6.alloc (.cells #[.int .i64 m.d.cyl, .int .i64 m.d.heads, .int .i64 m.d.per, .int .i64 m.d.size, .slice A6 m.d.secs.length c6, .slice A61 m.fr.length c61, .slice A62 m.ag.length c62] 41)) := B6.trans (HA6.mono (by omega))
  have Rn6' := Rn6.below HA6 (by omega)
  have Rm6' := Rm6.below HA6 (by omega)
  have X6 : Row (w6.alloc (.cells #[.int .i64 m.d.cyl, .int .i64 m.d.heads, .int .i64 m.d.per, .int .i64 m.d.size, .slice A6 m.d.secs.length c6, .slice A61 m.fr.length c61, .slice A62 m.ag.length c62] 41)) w6.heap.size (mrgL m (.slice A6 m.d.secs.length c6) (.slice A61 m.fr.length c61) (.slice A62 m.ag.length c62)) := Row.alloc w6 _ _
  have o6' := o6.below HA6
  have z6' : ((w6.alloc (.cells #[.int .i64 m.d.cyl, .int .i64 m.d.heads, .int .i64 m.d.per, .int .i64 m.d.size, .slice A6 m.d.secs.length c6, .slice A61 m.fr.length c61, .slice A62 m.ag.length c62] 41))).heap.size = w6.heap.size + 1 := by simp
  obtain ⟨k0, k1, k2, k3, k4, k5, k6⟩ := Rn6'.seven
  go_wp2_with (fail)
  refine (Tn.out (w6.alloc (.cells #[.int .i64 m.d.cyl, .int .i64 m.d.heads, .int .i64 m.d.per, .int .i64 m.d.size, .slice A6 m.d.secs.length c6, .slice A61 m.fr.length c61, .slice A62 m.ag.length c62] 41)) B6').mono ?_; rintro e w7 ⟨A7, c7, A71, c71, A72, c72, rfl, o7, hb7⟩
  clear k0 k1 k2 k3 k4 k5 k6
  have z7 : w6.heap.size + 1 ≤ w7.heap.size := by have := hb7.size; omega
  have B7 : Below w.heap.size w w7 := B6'.trans (hb7.mono (by omega))
  have Rn7 := Rn6'.below hb7 (by omega)
  have Rm7 := Rm6'.below hb7 (by omega)
  have X7 := X6.below hb7 (by omega)
  have o67 := o6'.below hb7
  clear hb7 hb6 o6' o6 X6 Rn6' Rm6' B6' HA6 z6' B5 Rm5 Rn5 Rm6 Rn6 B6
  have HA7 : Below w7.heap.size w7 (w7.alloc (.cells #[.int .i64 n.d.cyl, .int .i64 n.d.heads, .int .i64 n.d.per, .int .i64 n.d.size, .slice A7 n.d.secs.length c7, .slice A71 n.fr.length c71, .slice A72 n.ag.length c72] 41)) := Below.alloc (Below.refl _ _) (Nat.le_refl _) _
  have B7' : Below w.heap.size w (w7.alloc (.cells #[.int .i64 n.d.cyl, .int .i64 n.d.heads, .int .i64 n.d.per, .int .i64 n.d.size, .slice A7 n.d.secs.length c7, .slice A71 n.fr.length c71, .slice A72 n.ag.length c72] 41)) := B7.trans (HA7.mono (by omega))
  have Rn7' := Rn7.below HA7 (by omega)
  have Rm7' := Rm7.below HA7 (by omega)
  have X7' := X7.below HA7 (by omega)
  have Y7' : Row (w7.alloc (.cells #[.int .i64 n.d.cyl, .int .i64 n.d.heads, .int .i64 n.d.per, .int .i64 n.d.size, .slice A7 n.d.secs.length c7, .slice A71 n.fr.length c71, .slice A72 n.ag.length c72] 41)) w7.heap.size (mrgL n (.slice A7 n.d.secs.length c7) (.slice A71 n.fr.length c71) (.slice A72 n.ag.length c72)) := Row.alloc w7 _ _
  have o67' := o67.below HA7
  have o7' := o7.below HA7
  have z7' : ((w7.alloc (.cells #[.int .i64 n.d.cyl, .int .i64 n.d.heads, .int .i64 n.d.per, .int .i64 n.d.size, .slice A7 n.d.secs.length c7, .slice A71 n.fr.length c71, .slice A72 n.ag.length c72] 41))).heap.size = w7.heap.size + 1 := by simp
  obtain ⟨k0, k1, k2, k3, k4, k5, k6⟩ := X7'.seven
  obtain ⟨j0, j1, j2, j3, j4, j5, j6⟩ := Y7'.seven
  go_wp2_with (fail)
  refine (mrg_i m n _ _ (w7.alloc (.cells #[.int .i64 n.d.cyl, .int .i64 n.d.heads, .int .i64 n.d.per, .int .i64 n.d.size, .slice A7 n.d.secs.length c7, .slice A71 n.fr.length c71, .slice A72 n.ag.length c72] 41)) o67' o7' sM sN).mono ?_; rintro e w8 ⟨rfl, hb8⟩
  clear k0 k1 k2 k3 k4 k5 k6 j0 j1 j2 j3 j4 j5 j6
  have z8 : w7.heap.size + 1 ≤ w8.heap.size := by have := hb8.size; omega
  have B8 : Below w.heap.size w w8 := B7'.trans (hb8.mono (by omega))
  have Rn8 := Rn7'.below hb8 (by omega)
  have Rm8 := Rm7'.below hb8 (by omega)
  have X8 := X7'.below hb8 (by omega)
  have Y8 := Y7'.below hb8 (by omega)
  have om8 := o67'.below hb8
  have on8 := o7'.below hb8
  clear hb8 HA7 B7' Rn7' Rm7' X7' Y7' o67' o7' z7' B7 Rn7 Rm7 X7 o67 o7
  go_wp2_with (fail)
  have B8d := B8.drew
  have Rn8d := Rn8.below (Below.refl _ _).drew (by omega)
  have Rm8d := Rm8.below (Below.refl _ _).drew (by omega)
  have X8d := X8.below (Below.refl _ _).drew (by omega)
  have Y8d := Y8.below (Below.refl _ _).drew (by omega)
  have om8d := om8.below (Below.refl _ _).drew
  go_region_held3 (fun w' => Seven m (.slice A m.d.secs.length c) (.slice A1 m.fr.length c1) (.slice A2 m.ag.length c2) w.heap.size w' ∧ Seven m (.slice A6 m.d.secs.length c6) (.slice A61 m.fr.length c61) (.slice A62 m.ag.length c62) w6.heap.size w')
    (first | exact ⟨Rm8d.seven, X8d.seven⟩ | exact ⟨(Rm8d.below hb9 (by show w.heap.size < w8.heap.size; omega)).seven, (X8d.below hb9 (by show w6.heap.size < w8.heap.size; omega)).seven⟩ | exact ⟨((Rm8d.below hb9 (by show w.heap.size < w8.heap.size; omega)).below hb10 (by have : w8.heap.size ≤ w9.heap.size := hb9.size; omega)).seven, ((X8d.below hb9 (by show w6.heap.size < w8.heap.size; omega)).below hb10 (by have : w8.heap.size ≤ w9.heap.size := hb9.size; omega)).seven⟩)
    (first
      | (go_at_call 23; refine (Tm.out _ B8d).mono ?_; rintro e w9 ⟨A9, c9, A91, c91, A92, c92, rfl, o9, hb9⟩)
      | (go_at_call 25; refine (eqMrg m _ _ w9 (om8d.below hb9) o9 sM.d sM.fr sM.ag).mono ?_; rintro e w10 ⟨rfl, hb10⟩))
  replace hb9 : Below w8.heap.size w8 w9 := ((Below.refl w8.heap.size w8).drew).trans hb9
  have z9 : w8.heap.size ≤ w9.heap.size := hb9.size
  have z10 : w9.heap.size ≤ w10.heap.size := hb10.size
  have B10 : Below w.heap.size w w10 := (B8.trans (hb9.mono (by omega))).trans (hb10.mono (by omega))
  have Rn10 := (Rn8.below hb9 (by omega)).below hb10 (by omega)
  have Y10 := (Y8.below hb9 (by omega)).below hb10 (by omega)
  have on10 := (on8.below hb9).below hb10
  clear hb9 hb10 B8 B8d Rn8 Rm8 X8 Y8 Rn8d Rm8d X8d Y8d om8 om8d on8 o9
  go_wp2_with (fail)
  have B10d := B10.drew
  have Rn10d := Rn10.below (Below.refl _ _).drew (by omega)
  have Y10d := Y10.below (Below.refl _ _).drew (by omega)
  have on10d := on10.below (Below.refl _ _).drew
  go_region_held3 (fun w' => Seven n (.slice A' n.d.secs.length c') (.slice A1' n.fr.length c1') (.slice A2' n.ag.length c2') (w.heap.size + 1) w' ∧ Seven n (.slice A7 n.d.secs.length c7) (.slice A71 n.fr.length c71) (.slice A72 n.ag.length c72) w7.heap.size w')
    (first | exact ⟨Rn10d.seven, Y10d.seven⟩ | exact ⟨(Rn10d.below hb11 (by show w.heap.size + 1 < w10.heap.size; omega)).seven, (Y10d.below hb11 (by show w7.heap.size < w10.heap.size; omega)).seven⟩ | exact ⟨((Rn10d.below hb11 (by show w.heap.size + 1 < w10.heap.size; omega)).below hb12 (by have : w10.heap.size ≤ w11.heap.size := hb11.size; omega)).seven, ((Y10d.below hb11 (by show w7.heap.size < w10.heap.size; omega)).below hb12 (by have : w10.heap.size ≤ w11.heap.size := hb11.size; omega)).seven⟩)
    (first
      | (go_at_call 23; refine (Tn.out _ B10d).mono ?_; rintro e w11 ⟨A9, c9, A91, c91, A92, c92, rfl, o9, hb11⟩)
      | (go_at_call 25; refine (eqMrg n _ _ w11 (on10d.below hb11) o9 sN.d sN.fr sN.ag).mono ?_; rintro e w12 ⟨rfl, hb12⟩))
  have z11 : w10.heap.size ≤ w11.heap.size := hb11.size
  have B12 : Below w.heap.size w w12 := (B10d.trans (hb11.mono (by show w.heap.size ≤ w10.heap.size; omega))).trans (hb12.mono (by omega))
  go_wp2
  go_ret
  exact ⟨rfl, B12⟩
end Go.Proofs.Ytignjjkldmninaa
