/- The walk of FnExactCountSources. Printed by gen_count.py. -/
import Derived.Test.YtjkfkjbakokjeaaCountS
import Derived.Deep.RegionHeld3
namespace Go.Proofs.Ytjkfkjbakokjeaa
set_option linter.unusedVariables false
open Go.RowKit
theorem toCert' (l : List Src) (v : Value) (w : World) (h : RSourceS.raw w v l) (hn : RSourceS.wt l ≤ 1048576) :
    Calls Try.prog 9 #[.agg #[v]] w fun e w' => ∃ A c, e = .returned (.agg #[.slice A l.length c]) ∧ RSourceS.own w.heap.size w'.heap.size w' (.slice A l.length c) l ∧ Below w.heap.size w w' :=
  (toCert l v w h hn).mono fun e w' ⟨v', h1, h2, h3⟩ => by
    obtain ⟨A, c, rfl, _⟩ := h2.1.shape
    exact ⟨A, c, h1, h2, h3⟩
set_option maxRecDepth 20000 in
set_option maxHeartbeats 4000000 in
theorem walkFnExactCountSources (l : List Src) (v : Value) (w : World) (r : RSourceS.raw w v l) :
    Calls Try.prog 4 #[.agg #[v]] w fun e w' => e = .returned (.bool true) ∧ Below w.heap.size w w' := by
  have HR := Lib.hid r
  obtain ⟨⟨A, c, rfl, _⟩, _⟩ := r
  have B0 : Below w.heap.size w (w.alloc (.cells #[.slice A l.length c] 24)) := Below.alloc (Below.refl _ _) (Nat.le_refl _) _
  have z0 : ((w.alloc (.cells #[.slice A l.length c] 24))).heap.size = w.heap.size + 1 := by simp
  have pb0 : ((w.alloc (.cells #[.slice A l.length c] 24))).cell? ⟨w.heap.size, 0, none⟩ = some (.slice A l.length c) := by simp
  by_cases q : ((RSourceS.wt l : Nat) : Int) ≤ 1048576
  rotate_left
  · have H := szR_neg.2 q
    go_enter Try.func4, Try.ntmps4
    go_wp2_with (fail)
    refine (szCert l _ _ _ (RSourceS.rawk HR.out B0) (by omega)).mono ?_; rintro e w1 ⟨rfl, hb1⟩
    go_wp2
    go_ret
    exact ⟨rfl, (by repeat (first | exact Below.refl _ _ | refine Below.alloc ?_ (by first | omega | (simp; done) | (simp; omega)) _ | apply Below.drew | apply below_drewN | refine Below.setCell ?_ (by first | omega | (simp; done) | (simp; omega)) _ | refine Below.trans ?_ (Below.mono (by assumption) (by first | omega | (simp; done) | (simp; omega)))))⟩
  · have H := szR_pos.2 q
    have hn : l.length ≤ 1048576 := by have : ((l.length + Src.wts l : Nat) : Int) ≤ 1048576 := q; omega
    have hq : RSourceS.wt l ≤ 1048576 := by omega
    have cnt : RSourceS.cnt l ≤ 8388608 := by show l.length * 3 ≤ _; omega
    have cntr : RInt64S.cnt (counts l) ≤ 8388608 := by show (counts l).length * 1 ≤ _; have := counts_len l; omega
    go_enter Try.func4, Try.ntmps4
    go_wp2_with (fail)
    refine (szCert l _ _ _ (RSourceS.rawk HR.out B0) (by omega)).mono ?_; rintro e w1 ⟨rfl, hb1⟩
    have z1 : w.heap.size + 1 ≤ w1.heap.size := by have := hb1.size; omega
    have B1 : Below w.heap.size w w1 := B0.trans (hb1.mono (by omega))
    have pb1 := (hb1.cell (p := ⟨w.heap.size, 0, none⟩) (by show w.heap.size < _; omega)).trans pb0
    go_wp2_with (fail)
    refine (toCert' l _ _ (RSourceS.rawk HR.out B1) hq).mono ?_; rintro e w2 ⟨A2, c2, rfl, oy, hb2⟩
    have z2 : w1.heap.size ≤ w2.heap.size := hb2.size
    have B2 : Below w.heap.size w w2 := B1.trans (hb2.mono (by omega))
    have pb2 := (hb2.cell (p := ⟨w.heap.size, 0, none⟩) (by show w.heap.size < _; omega)).trans pb1
    go_wp2_with (fail)
    refine (r_retInt64S (counts_s _ l _ _ oy.1 hn)).mono ?_; rintro e w3 ⟨v3, rfl, ow, hb3⟩
    have z3 : w2.heap.size ≤ w3.heap.size := hb3.size
    have B3 : Below w.heap.size w w3 := B2.trans (hb3.mono (by omega))
    have pb3 := (hb3.cell (p := ⟨w.heap.size, 0, none⟩) (by show w.heap.size < _; omega)).trans pb2
    go_wp2_with (fail)
    refine (toCert' l _ _ (RSourceS.rawk HR.out B3) hq).mono ?_; rintro e w4 ⟨A4, c4, rfl, ox, hb4⟩
    have z4 : w3.heap.size ≤ w4.heap.size := hb4.size
    have B4 : Below w.heap.size w w4 := B3.trans (hb4.mono (by omega))
    have pb4 := (hb4.cell (p := ⟨w.heap.size, 0, none⟩) (by show w.heap.size < _; omega)).trans pb3
    have ow_4 := Rep.keep (R := RInt64S) ow hb4
    have Bx : Below w4.heap.size w4 (w4.alloc (.cells #[.slice A4 l.length c4] 29)) := Below.alloc (Below.refl _ _) (Nat.le_refl _) _
    have oxx := Rep.keep (R := RSourceS) ox Bx
    go_wp2_with (fail)
    refine (r_retInt64S (counts_i _ l _ _ oxx.1 hn)).mono ?_; rintro e w5 ⟨v5, rfl, og, hb5⟩
    have pxx : w5.cell? ⟨w4.heap.size, 0, none⟩ = some (.slice A4 l.length c4) := (hb5.cell (p := ⟨w4.heap.size, 0, none⟩) (by simp)).trans (by simp)
    have zz5 : w4.heap.size + 1 ≤ w5.heap.size := by have := hb5.size; simpa using this
    have og' : RInt64S.own (w4.heap.size + 1) w5.heap.size w5 v5 (counts l) := by simpa using og
    clear og oxx
    replace hb5 : Below w4.heap.size w4 w5 := Bx.trans (hb5.mono (by simp))
    clear Bx
    have z5 : w4.heap.size ≤ w5.heap.size := hb5.size
    have B5 : Below w.heap.size w w5 := B4.trans (hb5.mono (by omega))
    have pb5 := (hb5.cell (p := ⟨w.heap.size, 0, none⟩) (by show w.heap.size < _; omega)).trans pb4
    have ow_5 := Rep.keep (R := RInt64S) ow_4 hb5
    have ox_5 := Rep.keep (R := RSourceS) ox hb5
    have px5 := pxx
    go_wp2_with (fail)
    refine (r_eqInt64S (counts l) _ _ _ _ _ _ _ og' ow_5 cntr).mono ?_; rintro e w6 ⟨rfl, hb6⟩
    have z6 : w5.heap.size ≤ w6.heap.size := hb6.size
    have B6 : Below w.heap.size w w6 := B5.trans (hb6.mono (by omega))
    have pb6 := (hb6.cell (p := ⟨w.heap.size, 0, none⟩) (by show w.heap.size < _; omega)).trans pb5
    have px6 := (hb6.cell (p := ⟨w4.heap.size, 0, none⟩) (by show w4.heap.size < _; omega)).trans px5
    have ow_6 := Rep.keep (R := RInt64S) ow_5 hb6
    have ox_6 := Rep.keep (R := RSourceS) ox_5 hb6
    have og_6 := Rep.keep (R := RInt64S) og' hb6
    go_wp2_with (fail)
    have B6d : Below w.heap.size w w6.drew := B6.drew
    have ox_6d := Rep.keep (R := RSourceS) ox_6 (Below.refl _ _).drew
    go_region_held3 (fun w' => w'.cell? ⟨w.heap.size, 0, none⟩ = some (.slice A l.length c) ∧ w'.cell? ⟨w4.heap.size, 0, none⟩ = some (.slice A4 l.length c4))
      (first | go_keep | exact ⟨(hb7.cell (p := ⟨w.heap.size, 0, none⟩) (by show w.heap.size < w6.heap.size; omega)).trans pb6, (hb7.cell (p := ⟨w4.heap.size, 0, none⟩) (by show w4.heap.size < w6.heap.size; omega)).trans px6⟩ | exact ⟨(hb8.cell (p := ⟨w.heap.size, 0, none⟩) (by have h6 : w6.heap.size ≤ w7.heap.size := hb7.size; show w.heap.size < w7.heap.size; omega)).trans ((hb7.cell (p := ⟨w.heap.size, 0, none⟩) (by show w.heap.size < w6.heap.size; omega)).trans pb6), (hb8.cell (p := ⟨w4.heap.size, 0, none⟩) (by have h6 : w6.heap.size ≤ w7.heap.size := hb7.size; show w4.heap.size < w7.heap.size; omega)).trans ((hb7.cell (p := ⟨w4.heap.size, 0, none⟩) (by show w4.heap.size < w6.heap.size; omega)).trans px6)⟩)
      (first
        | (go_at_call 9; refine (toCert' l _ _ (RSourceS.rawk HR.out B6d) hq).mono ?_; rintro e w7 ⟨A7, c7, rfl, oz, hb7⟩)
        | (go_at_call 11; refine (eqCert l _ _ _ _ _ _ _ (Rep.keep (R := RSourceS) ox_6d hb7) oz cnt).mono ?_; rintro e w8 ⟨rfl, hb8⟩))
    replace hb7 : Below w6.heap.size w6 w7 := ((Below.refl w6.heap.size w6).drew).trans hb7
    have z7 : w6.heap.size ≤ w7.heap.size := hb7.size
    have B7 : Below w.heap.size w w7 := B6.trans (hb7.mono (by omega))
    have pb7 := (hb7.cell (p := ⟨w.heap.size, 0, none⟩) (by show w.heap.size < _; omega)).trans pb6
    have px7 := (hb7.cell (p := ⟨w4.heap.size, 0, none⟩) (by show w4.heap.size < _; omega)).trans px6
    have ow_7 := Rep.keep (R := RInt64S) ow_6 hb7
    have ox_7 := Rep.keep (R := RSourceS) ox_6 hb7
    have og_7 := Rep.keep (R := RInt64S) og_6 hb7
    have z8 : w7.heap.size ≤ w8.heap.size := hb8.size
    have B8 : Below w.heap.size w w8 := B7.trans (hb8.mono (by omega))
    have pb8 := (hb8.cell (p := ⟨w.heap.size, 0, none⟩) (by show w.heap.size < _; omega)).trans pb7
    have px8 := (hb8.cell (p := ⟨w4.heap.size, 0, none⟩) (by show w4.heap.size < _; omega)).trans px7
    have ow_8 := Rep.keep (R := RInt64S) ow_7 hb8
    have ox_8 := Rep.keep (R := RSourceS) ox_7 hb8
    have og_8 := Rep.keep (R := RInt64S) og_7 hb8
    go_wp2_with (fail)
    refine (markCert l _ 1 _ _ _ ox_8 (by omega) cnt (by omega) (by omega)).mono ?_; rintro e w9 ⟨rfl, om, hc9⟩
    have z9 : w8.heap.size ≤ w9.heap.size := hc9.size
    have B9 : Below w.heap.size w w9 := Chg.below B8 hc9 (by omega) (Nat.le_refl _)
    have pb9 := (World.cell?_of_block (a := ⟨w.heap.size, 0, none⟩) (hc9.block w.heap.size (by omega) (by omega))).trans pb8
    have px9 := (World.cell?_of_block (a := ⟨w4.heap.size, 0, none⟩) (hc9.block w4.heap.size (by omega) (by omega))).trans px8
    have ow_9 := RInt64S.chg ow_8 hc9 (by omega)
    have og_9 := RInt64S.chg og_8 hc9 (by omega)
    have hk9 : decide (((1 + RSourceS.cnt l : Nat) : Int) < 0) = false := by simp; omega
    go_wp2_with (fail)
    refine (r_eqInt64S (counts l) _ _ _ _ _ _ _ og_9 ow_9 cntr).mono ?_; rintro e w10 ⟨rfl, hb10⟩
    have z10 : w9.heap.size ≤ w10.heap.size := hb10.size
    have B10 : Below w.heap.size w w10 := B9.trans (hb10.mono (by omega))
    have pb10 := (hb10.cell (p := ⟨w.heap.size, 0, none⟩) (by show w.heap.size < _; omega)).trans pb9
    have px10 := (hb10.cell (p := ⟨w4.heap.size, 0, none⟩) (by show w4.heap.size < _; omega)).trans px9
    have ow_10 := Rep.keep (R := RInt64S) ow_9 hb10
    have og_10 := Rep.keep (R := RInt64S) og_9 hb10
    go_wp2_with (fail)
    refine (r_markInt64S (counts l) _ 1 _ _ _ og_10 cntr (by omega) (by omega)).mono ?_; rintro e w11 ⟨rfl, ogm, hc11⟩
    have z11 : w10.heap.size ≤ w11.heap.size := hc11.size
    have B11 : Below w.heap.size w w11 := Chg.below B10 hc11 (by omega) (Nat.le_refl _)
    have pb11 := (World.cell?_of_block (a := ⟨w.heap.size, 0, none⟩) (hc11.block w.heap.size (by omega) (by omega))).trans pb10
    have px11 := (World.cell?_of_block (a := ⟨w4.heap.size, 0, none⟩) (hc11.block w4.heap.size (by omega) (by omega))).trans px10
    have ow_11 := RInt64S.chg ow_10 hc11 (by omega)
    go_wp2_with (fail)
    refine (r_heldInt64S (counts l) _ 1 _ _ _ ogm cntr (by omega) (by omega)).mono ?_; rintro e w12 ⟨rfl, hb12⟩
    have z12 : w11.heap.size ≤ w12.heap.size := hb12.size
    have B12 : Below w.heap.size w w12 := B11.trans (hb12.mono (by omega))
    have pb12 := (hb12.cell (p := ⟨w.heap.size, 0, none⟩) (by show w.heap.size < _; omega)).trans pb11
    have px12 := (hb12.cell (p := ⟨w4.heap.size, 0, none⟩) (by show w4.heap.size < _; omega)).trans px11
    have ow_12 := Rep.keep (R := RInt64S) ow_11 hb12
    have og_12 := Rep.keep (R := RInt64S) ogm hb12
    go_wp2_with (fail)
    refine (toCert' l _ _ (RSourceS.rawk HR.out B12) hq).mono ?_; rintro e w13 ⟨A13, c13, rfl, oh, hb13⟩
    have z13 : w12.heap.size ≤ w13.heap.size := hb13.size
    have B13 : Below w.heap.size w w13 := B12.trans (hb13.mono (by omega))
    have pb13 := (hb13.cell (p := ⟨w.heap.size, 0, none⟩) (by show w.heap.size < _; omega)).trans pb12
    have px13 := (hb13.cell (p := ⟨w4.heap.size, 0, none⟩) (by show w4.heap.size < _; omega)).trans px12
    have ow_13 := Rep.keep (R := RInt64S) ow_12 hb13
    have og_13 := Rep.keep (R := RInt64S) og_12 hb13
    go_wp2_with (fail)
    refine (r_retInt64S (counts_i _ l _ _ oh.1 hn)).mono ?_; rintro e w14 ⟨v14, rfl, oa, hb14⟩
    have z14 : w13.heap.size ≤ w14.heap.size := hb14.size
    have B14 : Below w.heap.size w w14 := B13.trans (hb14.mono (by omega))
    have pb14 := (hb14.cell (p := ⟨w.heap.size, 0, none⟩) (by show w.heap.size < _; omega)).trans pb13
    have px14 := (hb14.cell (p := ⟨w4.heap.size, 0, none⟩) (by show w4.heap.size < _; omega)).trans px13
    have ow_14 := Rep.keep (R := RInt64S) ow_13 hb14
    have og_14 := Rep.keep (R := RInt64S) og_13 hb14
    go_wp2_with (fail)
    refine (r_eqInt64S (counts l) _ _ _ _ _ _ _ oa ow_14 cntr).mono ?_; rintro e w15 ⟨rfl, hb15⟩
    have z15 : w14.heap.size ≤ w15.heap.size := hb15.size
    have B15 : Below w.heap.size w w15 := B14.trans (hb15.mono (by omega))
    have pb15 := (hb15.cell (p := ⟨w.heap.size, 0, none⟩) (by show w.heap.size < _; omega)).trans pb14
    have px15 := (hb15.cell (p := ⟨w4.heap.size, 0, none⟩) (by show w4.heap.size < _; omega)).trans px14
    have ow_15 := Rep.keep (R := RInt64S) ow_14 hb15
    have og_15 := Rep.keep (R := RInt64S) og_14 hb15
    have oa_15 := Rep.keep (R := RInt64S) oa hb15
    go_wp2_with (fail)
    refine (r_heldInt64S (counts l) _ 1 _ _ _ og_15 cntr (by omega) (by omega)).mono ?_; rintro e w16 ⟨rfl, hb16⟩
    have z16 : w15.heap.size ≤ w16.heap.size := hb16.size
    have B16 : Below w.heap.size w w16 := B15.trans (hb16.mono (by omega))
    have pb16 := (hb16.cell (p := ⟨w.heap.size, 0, none⟩) (by show w.heap.size < _; omega)).trans pb15
    have px16 := (hb16.cell (p := ⟨w4.heap.size, 0, none⟩) (by show w4.heap.size < _; omega)).trans px15
    have ow_16 := Rep.keep (R := RInt64S) ow_15 hb16
    have og_16 := Rep.keep (R := RInt64S) og_15 hb16
    have oa_16 := Rep.keep (R := RInt64S) oa_15 hb16
    go_wp2_with (fail)
    go_ret
    exact ⟨rfl, B16⟩
end Go.Proofs.Ytjkfkjbakokjeaa
