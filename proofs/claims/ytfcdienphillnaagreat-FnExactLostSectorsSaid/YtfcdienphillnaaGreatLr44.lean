/- The walk of FnExactLostSectors. Printed by gen_rp.py. -/
import Derived.Test.YtfcdienphillnaaGreatLr43
import Derived.Deep.RegionHeld3
namespace Go.Proofs.YtfcdienphillnaaGreat
set_option linter.unusedVariables false
set_option linter.unusedSimpArgs false
open Go.RowKit
set_option maxRecDepth 20000 in
set_option maxHeartbeats 8000000 in
theorem walkFnExactLostSectors (e : Evd) (w : World) {va vb vc vd : Value} (h : EvIn w e va vb vc vd) :
    Calls Tryz.prog 5 #[evV va vb vc vd] w fun r w' => r = .returned (.bool true) ∧ Below w.heap.size w w' := by
  have H1 := Lib.hid h
  obtain ⟨A, n, hv, _, _⟩ := h.ds
  obtain ⟨B', k', hv1, _, _⟩ := h.cr
  obtain ⟨⟨C, i, hv2, _, _⟩, _⟩ := h.p
  obtain ⟨⟨D, j, hv3, _, _⟩, _⟩ := h.q
  subst hv hv1 hv2 hv3
  clear h
  have R0 : Row (w.alloc (.cells #[.slice A e.ds.length n, .slice B' e.cr.length k', .slice C e.p.length i, .slice D e.q.length j] 26)) w.heap.size [.slice A e.ds.length n, .slice B' e.cr.length k', .slice C e.p.length i, .slice D e.q.length j] := Row.alloc w _ _
  have B0 : Below w.heap.size w (w.alloc (.cells #[.slice A e.ds.length n, .slice B' e.cr.length k', .slice C e.p.length i, .slice D e.q.length j] 26)) := Below.alloc (Below.refl _ _) (Nat.le_refl _) _
  have z0 : w.heap.size + 1 = ((w.alloc (.cells #[.slice A e.ds.length n, .slice B' e.cr.length k', .slice C e.p.length i, .slice D e.q.length j] 26))).heap.size := by simp
  have HZ := Lib.hid (szEvd e _ _ _ _ 1048576 (w.alloc (.cells #[.slice A e.ds.length n, .slice B' e.cr.length k', .slice C e.p.length i, .slice D e.q.length j] 26)) (H1.out.below B0) ⟨by omega, by omega⟩)
  have c0 := R0 0 _ rfl
  have c1 := R0 1 _ rfl
  have c2 := R0 2 _ rfl
  have c3 := R0 3 _ rfl
  by_cases q1 : evZ 1048576 e < 0
  · generalize evZ 1048576 e = x at *
    have d1 : decide (x < 0) = true := by simpa using q1
    go_enter Tryz.func5, Tryz.ntmps5
    go_wp2_with (fail)
    generalize (w.alloc (.cells #[.slice A e.ds.length n, .slice B' e.cr.length k', .slice C e.p.length i, .slice D e.q.length j] 26)) = w0 at *
    refine HZ.out.mono ?_; rintro r w1 ⟨rfl, hb1⟩
    go_wp2_with (fail)
    go_ret
    exact ⟨rfl, B0.trans (hb1.mono (by omega))⟩
  have hw := evZ_small (e := e) (by omega) q1
  have hs := ev_small H1.out hw
  have hcl := evC_le hw
  obtain ⟨hw1, hw2, hw3, hw4⟩ := hw
  generalize evZ 1048576 e = x at *
  have d1 : decide (x < 0) = false := by simpa using q1
  have TE := Lib.hid (fun (w' : World) (hb : Below w.heap.size w w') => toEvd e _ _ _ _ w' (H1.out.below hb) hs.ds hs.secs hs.cr hs.p hs.q)
  have TT := Lib.hid (fun (w' : World) (hb : Below w.heap.size w w') => toEvdT e _ _ _ _ w' (H1.out.below hb) hw1 hs.cr hs.p hs.q)
  have QE := Lib.hid (fun (w' : World) (Ba Bb : Nat) (a b c d a' b' c' d' : Value) (o : EvOwn Ba w' e a b c d) (o' : EvOwn Bb w' e a' b' c' d') => eqEvd e Ba Bb w' o o' (by have := hs.ds; omega) (fun d hd => by have := hs.secs d hd; omega) (by have := hs.cr; omega) (by have := hs.p; omega) (by have := hs.q; omega))
  have ME := Lib.hid (fun (w' : World) (B E : Nat) (a b c d : Value) (o : EvT B E w' e a b c d) (hE : E ≤ w'.heap.size) => markEvd e a b c d 1 B E w' o hE hw1 hs.cr hs.p hs.q hcl.2 (by omega) (by omega))
  have hll : (rpLo e).length ≤ 1048576 := by
    by_cases hok : evOk e = true
    · obtain ⟨z, P, m, T, N, F⟩ := rd_f hok
      exact rpLo_len e (by rw [F.hz, F.hl]; have := F.le; omega)
    · unfold rpLo; rw [if_neg hok]; simp
  have FS := Lib.hid (fun (w' : World) (B : Nat) (a b cc dd : Value) (o : EvOwn B w' e a b cc dd) => los_rep (los_s B e a b cc dd w' o hs))
  have FI := Lib.hid (fun (w' : World) (B : Nat) (a b cc dd : Value) (o : EvOwn B w' e a b cc dd) => los_rep (los_i B e a b cc dd w' o hs))
  have cntr : RInt64S.cnt (rpLo e) ≤ 8388608 := by show (rpLo e).length * 1 ≤ _; omega
  generalize rpLo e = f at *
  generalize rdC e = K at *
  have hev := hcl.1
  clear hs hcl hw1 hw2 hw3 hw4 H1
  generalize evC e = cE at *
  go_enter Tryz.func5, Tryz.ntmps5
  go_wp2_with (fail)
  generalize (w.alloc (.cells #[.slice A e.ds.length n, .slice B' e.cr.length k', .slice C e.p.length i, .slice D e.q.length j] 26)) = w0 at *
  refine HZ.out.mono ?_; rintro r w1 ⟨rfl, hb1⟩
  clear HZ c0 c1 c2 c3
  have z1 : w0.heap.size ≤ w1.heap.size := hb1.size
  have R1 := R0.below hb1 (by omega)
  have B1 : Below w.heap.size w w1 := B0.trans (hb1.mono (by omega))
  clear R0 B0
  obtain ⟨c0, c1, c2, c3⟩ := R1.four
  go_wp2_with (fail)
  refine (TE.out w1 B1).mono ?_; rintro r w2 ⟨a2, b2, cc2, dd2, rfl, o2, hb2⟩
  obtain ⟨A2, n2, U2, k2, C2, i2, D2, j2, rfl, rfl, rfl, rfl⟩ := o2.shape
  clear c0 c1 c2 c3
  have z2 : w1.heap.size ≤ w2.heap.size := hb2.size
  have R2 := R1.below hb2 (by omega)
  have B2 : Below w.heap.size w w2 := B1.trans (hb2.mono (by omega))
  clear R1 B1
  go_wp2_with (fail)
  refine (FS.out w2 _ _ _ _ _ o2).mono ?_; rintro r w3 ⟨v3, rfl, W3, hb3⟩
  have z3 : w2.heap.size ≤ w3.heap.size := hb3.size
  have R3 := R2.below hb3 (by omega)
  have B3 : Below w.heap.size w w3 := B2.trans (hb3.mono (by omega))
  clear R2 B2
  clear o2 FS
  obtain ⟨c0, c1, c2, c3⟩ := R3.four
  go_wp2_with (fail)
  refine (TT.out w3 B3).mono ?_; rintro r w4 ⟨a4, b4, cc4, dd4, rfl, o4, hb4⟩
  obtain ⟨A4, n4, U4, k4, C4, i4, D4, j4, rfl, rfl, rfl, rfl⟩ := o4.own.shape
  clear c0 c1 c2 c3
  have z4 : w3.heap.size ≤ w4.heap.size := hb4.size
  have R4 := R3.below hb4 (by omega)
  have B4 : Below w.heap.size w w4 := B3.trans (hb4.mono (by omega))
  have W4 := Rep.keep (R := RInt64S) W3 hb4
  clear R3 B3 W3
  have T4 := o4
  clear o4
  have hb5 : Below w4.heap.size w4 (w4.alloc (.cells #[.slice A4 e.ds.length n4, .slice U4 e.cr.length k4, .slice C4 e.p.length i4, .slice D4 e.q.length j4] 39)) := (by repeat (first | exact Below.refl _ _ | refine Below.alloc ?_ (by first | omega | (simp; done) | (simp; omega)) _ | apply Below.drew | apply below_drewN | refine Below.setCell ?_ (by first | omega | (simp; done) | (simp; omega)) _ | refine Below.trans ?_ (Below.mono (by assumption) (by first | omega | (simp; done) | (simp; omega)))))
  have z5 : w4.heap.size + 1 = ((w4.alloc (.cells #[.slice A4 e.ds.length n4, .slice U4 e.cr.length k4, .slice C4 e.p.length i4, .slice D4 e.q.length j4] 39))).heap.size := by simp
  have R5 := R4.below hb5 (by omega)
  have B5 : Below w.heap.size w (w4.alloc (.cells #[.slice A4 e.ds.length n4, .slice U4 e.cr.length k4, .slice C4 e.p.length i4, .slice D4 e.q.length j4] 39)) := B4.trans (hb5.mono (by omega))
  have W5 := Rep.keep (R := RInt64S) W4 hb5
  have T5 := T4.below hb5
  clear R4 B4 W4 T4
  have X5 : Row (w4.alloc (.cells #[.slice A4 e.ds.length n4, .slice U4 e.cr.length k4, .slice C4 e.p.length i4, .slice D4 e.q.length j4] 39)) w4.heap.size [.slice A4 e.ds.length n4, .slice U4 e.cr.length k4, .slice C4 e.p.length i4, .slice D4 e.q.length j4] := Row.alloc w4 _ _
  obtain ⟨c0, c1, c2, c3⟩ := X5.four
  go_wp2_with (fail)
  generalize (w4.alloc (.cells #[.slice A4 e.ds.length n4, .slice U4 e.cr.length k4, .slice C4 e.p.length i4, .slice D4 e.q.length j4] 39)) = w5 at *
  refine (FI.out w5 _ _ _ _ _ T5.own).mono ?_; rintro r w6 ⟨v6, rfl, G6, hb6⟩
  have z6 : w5.heap.size ≤ w6.heap.size := hb6.size
  have R6 := R5.below hb6 (by omega)
  have B6 : Below w.heap.size w w6 := B5.trans (hb6.mono (by omega))
  have W6 := Rep.keep (R := RInt64S) W5 hb6
  have T6 := T5.below hb6
  have X6 := X5.below hb6 (by omega)
  clear R5 B5 W5 T5 X5
  clear c0 c1 c2 c3
  go_wp2_with (fail)
  refine (r_eqInt64S f _ _ _ _ _ _ _ G6 W6 cntr).mono ?_; rintro r w7 ⟨rfl, hb7⟩
  have z7 : w6.heap.size ≤ w7.heap.size := hb7.size
  have R7 := R6.below hb7 (by omega)
  have B7 : Below w.heap.size w w7 := B6.trans (hb7.mono (by omega))
  have W7 := Rep.keep (R := RInt64S) W6 hb7
  have T7 := T6.below hb7
  have X7 := X6.below hb7 (by omega)
  have G7 := Rep.keep (R := RInt64S) G6 hb7
  clear R6 B6 W6 T6 X6 G6
  have Rd := R7.below (Below.refl w7.heap.size w7).drew (by omega)
  have Xd := X7.below (Below.refl w7.heap.size w7).drew (by omega)
  have Bd := B7.drew
  have Td := T7.below (Below.refl w7.heap.size w7).drew
  have HK : Hid (∀ w', Below w7.heap.size w7 w' → Four (.slice A4 e.ds.length n4) (.slice U4 e.cr.length k4) (.slice C4 e.p.length i4) (.slice D4 e.q.length j4) w4.heap.size w' ∧ Four (.slice A e.ds.length n) (.slice B' e.cr.length k') (.slice C e.p.length i) (.slice D e.q.length j) w.heap.size w') := Lib.hid fun w' hb => ⟨(X7.below hb (by omega)).four, (R7.below hb (by omega)).four⟩
  go_wp2_with (fail)
  go_region_held3 (fun w' => Four (.slice A4 e.ds.length n4) (.slice U4 e.cr.length k4) (.slice C4 e.p.length i4) (.slice D4 e.q.length j4) w4.heap.size w' ∧ Four (.slice A e.ds.length n) (.slice B' e.cr.length k') (.slice C e.p.length i) (.slice D e.q.length j) w.heap.size w')
    (first | exact HK.out _ hbc9 | exact HK.out _ hbc8 | exact HK.out _ (Below.refl w7.heap.size w7).drew)
    (first
      | (go_at_call 16; refine (QE.out w8 _ _ _ _ _ _ _ _ _ _ (Td.below hbq8).own o8).mono ?_; rintro r w9 ⟨rfl, hb9⟩; have hbc9 := hbc8.trans (hb9.mono hbc8.size))
      | (go_at_call 12; refine (TE.out _ Bd).mono ?_; rintro r w8 ⟨a8, b8, cc8, dd8, rfl, o8, hbq8⟩; obtain ⟨A8, n8, U8, k8, C8, i8, D8, j8, rfl, rfl, rfl, rfl⟩ := o8.shape; have hbc8 := ((Below.refl w7.heap.size w7).drew).trans hbq8))
  clear Rd Xd Bd Td HK hbq8 o8 hbc9
  have z8 : w7.heap.size ≤ w8.heap.size := hbc8.size
  have R8 := R7.below hbc8 (by omega)
  have B8 : Below w.heap.size w w8 := B7.trans (hbc8.mono (by omega))
  have W8 := Rep.keep (R := RInt64S) W7 hbc8
  have T8 := T7.below hbc8
  have X8 := X7.below hbc8 (by omega)
  have G8 := Rep.keep (R := RInt64S) G7 hbc8
  clear R7 B7 W7 T7 X7 G7
  have z9 : w8.heap.size ≤ w9.heap.size := hb9.size
  have R9 := R8.below hb9 (by omega)
  have B9 : Below w.heap.size w w9 := B8.trans (hb9.mono (by omega))
  have W9 := Rep.keep (R := RInt64S) W8 hb9
  have T9 := T8.below hb9
  have X9 := X8.below hb9 (by omega)
  have G9 := Rep.keep (R := RInt64S) G8 hb9
  clear R8 B8 W8 T8 X8 G8
  obtain ⟨c0, c1, c2, c3⟩ := X9.four
  go_wp2_with (fail)
  refine (ME.out w9 _ _ _ _ _ _ T9 (by omega)).mono ?_; rintro r w10 ⟨rfl, hc10⟩
  clear c0 c1 c2 c3
  have z10 : w9.heap.size ≤ w10.heap.size := hc10.size
  have R10 := R9.chg hc10 (by omega) (by omega)
  have B10 : Below w.heap.size w w10 := Chg.below B9 hc10 (by omega) (Nat.le_refl _)
  have W10 := RInt64S.chg W9 hc10 (by omega)
  have G10 := RInt64S.chg G9 hc10 (by omega)
  clear R9 B9 W9 T9 X9 G9
  have dk : decide (((1 + cE : Nat) : Int) < 0) = false := by simp; omega
  go_wp2_with (fail)
  refine (r_eqInt64S f _ _ _ _ _ _ _ G10 W10 cntr).mono ?_; rintro r w11 ⟨rfl, hb11⟩
  have z11 : w10.heap.size ≤ w11.heap.size := hb11.size
  have R11 := R10.below hb11 (by omega)
  have B11 : Below w.heap.size w w11 := B10.trans (hb11.mono (by omega))
  have W11 := Rep.keep (R := RInt64S) W10 hb11
  have G11 := Rep.keep (R := RInt64S) G10 hb11
  clear R10 B10 W10 G10
  go_wp2_with (fail)
  refine (r_markInt64S f _ 1 _ _ _ G11 cntr (by omega) (by omega)).mono ?_; rintro r w12 ⟨rfl, om12, hc12⟩
  have z12 : w11.heap.size ≤ w12.heap.size := hc12.size
  have R12 := R11.chg hc12 (by omega) (by omega)
  have B12 : Below w.heap.size w w12 := Chg.below B11 hc12 (by omega) (Nat.le_refl _)
  have W12 := RInt64S.chg W11 hc12 (by omega)
  clear R11 B11 W11 G11
  have G12 := om12
  clear om12
  go_wp2_with (fail)
  refine (r_heldInt64S f _ 1 _ _ _ G12 cntr (by omega) (by omega)).mono ?_; rintro r w13 ⟨rfl, hb13⟩
  have z13 : w12.heap.size ≤ w13.heap.size := hb13.size
  have R13 := R12.below hb13 (by omega)
  have B13 : Below w.heap.size w w13 := B12.trans (hb13.mono (by omega))
  have W13 := Rep.keep (R := RInt64S) W12 hb13
  have G13 := Rep.keep (R := RInt64S) G12 hb13
  clear R12 B12 W12 G12
  obtain ⟨c0, c1, c2, c3⟩ := R13.four
  go_wp2_with (fail)
  refine (TE.out w13 B13).mono ?_; rintro r w14 ⟨a14, b14, cc14, dd14, rfl, o14, hb14⟩
  obtain ⟨A14, n14, U14, k14, C14, i14, D14, j14, rfl, rfl, rfl, rfl⟩ := o14.shape
  clear c0 c1 c2 c3
  have z14 : w13.heap.size ≤ w14.heap.size := hb14.size
  have R14 := R13.below hb14 (by omega)
  have B14 : Below w.heap.size w w14 := B13.trans (hb14.mono (by omega))
  have W14 := Rep.keep (R := RInt64S) W13 hb14
  have G14 := Rep.keep (R := RInt64S) G13 hb14
  clear R13 B13 W13 G13
  go_wp2_with (fail)
  refine (FI.out w14 _ _ _ _ _ o14).mono ?_; rintro r w15 ⟨v15, rfl, H15, hb15⟩
  have z15 : w14.heap.size ≤ w15.heap.size := hb15.size
  have R15 := R14.below hb15 (by omega)
  have B15 : Below w.heap.size w w15 := B14.trans (hb15.mono (by omega))
  have W15 := Rep.keep (R := RInt64S) W14 hb15
  have G15 := Rep.keep (R := RInt64S) G14 hb15
  clear R14 B14 W14 G14
  go_wp2_with (fail)
  refine (r_eqInt64S f _ _ _ _ _ _ _ H15 W15 cntr).mono ?_; rintro r w16 ⟨rfl, hb16⟩
  have z16 : w15.heap.size ≤ w16.heap.size := hb16.size
  have R16 := R15.below hb16 (by omega)
  have B16 : Below w.heap.size w w16 := B15.trans (hb16.mono (by omega))
  have W16 := Rep.keep (R := RInt64S) W15 hb16
  have G16 := Rep.keep (R := RInt64S) G15 hb16
  have H16 := Rep.keep (R := RInt64S) H15 hb16
  clear R15 B15 W15 G15 H15
  go_wp2_with (fail)
  refine (r_heldInt64S f _ 1 _ _ _ G16 cntr (by omega) (by omega)).mono ?_; rintro r w17 ⟨rfl, hb17⟩
  have z17 : w16.heap.size ≤ w17.heap.size := hb17.size
  have R17 := R16.below hb17 (by omega)
  have B17 : Below w.heap.size w w17 := B16.trans (hb17.mono (by omega))
  have W17 := Rep.keep (R := RInt64S) W16 hb17
  have G17 := Rep.keep (R := RInt64S) G16 hb17
  have H17 := Rep.keep (R := RInt64S) H16 hb17
  clear R16 B16 W16 G16 H16
  go_wp2
  go_ret
  exact ⟨rfl, B17⟩
end Go.Proofs.YtfcdienphillnaaGreat
