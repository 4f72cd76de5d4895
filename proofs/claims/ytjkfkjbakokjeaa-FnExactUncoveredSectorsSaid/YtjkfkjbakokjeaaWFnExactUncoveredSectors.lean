/- The walk of FnExactUncoveredSectors. Printed by gen_unc.py. -/
import Derived.Test.YtjkfkjbakokjeaaUncI
import Derived.Test.YtjkfkjbakokjeaaDscH
import Derived.Deep.RegionHeld3
namespace Go.Proofs.Ytjkfkjbakokjeaa
set_option linter.unusedVariables false
open Go.RowKit
theorem Row.one {w : World} {b : Nat} {v : Value} (h : Row w b [v]) : w.cell? ⟨b, 0, none⟩ = some v := h 0 _ rfl
theorem toCertR (l : List Src) (v : Value) (w : World) (h : RSourceS.raw w v l) (hn : RSourceS.wt l ≤ 1048576) :
    Calls Try.prog 9 #[.agg #[v]] w fun e w' => ∃ A c, e = .returned (.agg #[.slice A l.length c]) ∧ RSourceS.own w.heap.size w'.heap.size w' (.slice A l.length c) l ∧ Below w.heap.size w w' :=
  (toCert l v w h hn).mono fun e w' ⟨v', h1, h2, h3⟩ => by
    obtain ⟨A, c, rfl, _⟩ := h2.1.shape
    exact ⟨A, c, h1, h2, h3⟩
theorem secin_own {B : Nat} {w : World} {v : Value} {l : List Sec} (h : OwnD B B w v l) : True := trivial
set_option maxRecDepth 20000 in
set_option maxHeartbeats 8000000 in
theorem walkFnExactUncoveredSectors (a : Dsc) (l : List Src) (w : World) {va vb : Value} (ha : SecIn w va a.secs) (hb : RSourceS.raw w vb l) :
    Calls Try.prog 5 #[dscV a va, .agg #[vb]] w fun e w' => e = .returned (.bool true) ∧ Below w.heap.size w w' := by
  have H1 := Lib.hid ha
  have H2 := Lib.hid hb
  have ma := Lib.hid ha.2
  obtain ⟨⟨A, c, e1, _, _⟩, _⟩ := ha
  obtain ⟨⟨A', c', e2, _⟩, _⟩ := hb
  subst e1 e2
  have B_w0 : Below w.heap.size w ((w.alloc (.cells #[.int .i64 a.cyl, .int .i64 a.heads, .int .i64 a.per, .int .i64 a.size, .slice A a.secs.length c] 40)).alloc (.cells #[.slice A' l.length c'] 24)) := (by repeat (first | exact Below.refl _ _ | refine Below.alloc ?_ (by first | omega | (simp; done) | (simp; omega)) _ | apply Below.drew | apply below_drewN | refine Below.setCell ?_ (by first | omega | (simp; done) | (simp; omega)) _ | refine Below.trans ?_ (Below.mono (by assumption) (by first | omega | (simp; done) | (simp; omega)))))
  have z0 : w.heap.size + 2 ≤ (((w.alloc (.cells #[.int .i64 a.cyl, .int .i64 a.heads, .int .i64 a.per, .int .i64 a.size, .slice A a.secs.length c] 40)).alloc (.cells #[.slice A' l.length c'] 24))).heap.size := by simp
  have Rb_w0 : Row ((w.alloc (.cells #[.int .i64 a.cyl, .int .i64 a.heads, .int .i64 a.per, .int .i64 a.size, .slice A a.secs.length c] 40)).alloc (.cells #[.slice A' l.length c'] 24)) (w.heap.size + 1) [.slice A' l.length c'] := by simpa using Row.alloc (w.alloc (.cells #[.int .i64 a.cyl, .int .i64 a.heads, .int .i64 a.per, .int .i64 a.size, .slice A a.secs.length c] 40)) #[.slice A' l.length c'] 24
  have Ra_w0 : Row ((w.alloc (.cells #[.int .i64 a.cyl, .int .i64 a.heads, .int .i64 a.per, .int .i64 a.size, .slice A a.secs.length c] 40)).alloc (.cells #[.slice A' l.length c'] 24)) w.heap.size (dscL a (.slice A a.secs.length c)) := (Row.alloc w #[.int .i64 a.cyl, .int .i64 a.heads, .int .i64 a.per, .int .i64 a.size, .slice A a.secs.length c] 40).below (Below.alloc (Below.refl _ _) (Nat.le_refl _) _) (by simp)
  have HZ := Lib.hid (szDsc a (.slice A a.secs.length c) 1048576 ((w.alloc (.cells #[.int .i64 a.cyl, .int .i64 a.heads, .int .i64 a.per, .int .i64 a.size, .slice A a.secs.length c] 40)).alloc (.cells #[.slice A' l.length c'] 24)) (H1.out.below B_w0) ⟨by omega, by omega⟩)
  by_cases q1 : szR 1048576 a.wt < 0
  · generalize szR 1048576 a.wt = x at *
    have d1 : decide (x < 0) = true := by simpa using q1
    go_enter Try.func5, Try.ntmps5
    go_wp2_with (fail)
    refine HZ.out.mono ?_; rintro e w1 ⟨rfl, hb1⟩
    go_wp2
    go_ret
    exact ⟨rfl, B_w0.trans (hb1.mono (by omega))⟩
  have hx : 0 ≤ szR 1048576 a.wt ∧ szR 1048576 a.wt ≤ 1048576 := ⟨by omega, szR_le (by omega)⟩
  have na : a.secs.length ≤ 1048576 := by
    have h1 : ((a.wt : Nat) : Int) ≤ 1048576 := by rw [szR_neg] at q1; omega
    have : a.wt = a.secs.length + Sec.wts a.secs := rfl
    omega
  generalize szR 1048576 a.wt = x at *
  have d1 : decide (x < 0) = false := by simpa using q1
  have HZn := Lib.hid (fun (w' : World) (hb : Below w.heap.size w w') => szCert l (.slice A' l.length c') x w' (RSourceS.rawk H2.out hb) hx)
  by_cases q2 : szR x (RSourceS.wt l) < 0
  · generalize szR x (RSourceS.wt l) = y at *
    have d2 : decide (y < 0) = true := by simpa using q2
    go_enter Try.func5, Try.ntmps5
    go_wp2_with (fail)
    refine HZ.out.mono ?_; rintro e w1 ⟨rfl, hb1⟩
    have B1 := B_w0.trans (hb1.mono (by omega))
    have Rn1 := Rb_w0.below hb1 (by omega)
    have k0 := Rn1.one
    go_wp2_with (fail)
    refine (HZn.out w1 B1).mono ?_; rintro e w2 ⟨rfl, hb2⟩
    go_wp2
    go_ret
    exact ⟨rfl, B1.trans (hb2.mono B1.size)⟩
  have hq : RSourceS.wt l ≤ 1048576 := by
    have h1 : ((RSourceS.wt l : Nat) : Int) ≤ x := by rw [szR_neg] at q2; omega
    omega
  have nb : l.length ≤ 1048576 := by have : RSourceS.wt l = l.length + Src.wts l := rfl; omega
  generalize szR x (RSourceS.wt l) = y at *
  have d2 : decide (y < 0) = false := by simpa using q2
  have cntl : RSourceS.cnt l ≤ 8388608 := by show l.length * 3 ≤ _; omega
  have cntL : Hid (RSourceS.cnt l = l.length * 3) := Lib.hid rfl
  have Ta := Lib.hid (fun (w' : World) (hb : Below w.heap.size w w') => toDscR a _ w' (H1.out.below hb) na)
  have Tb := Lib.hid (fun (w' : World) (hb : Below w.heap.size w w') => toCertR l _ w' (RSourceS.rawk H2.out hb) hq)
  have Fs := Lib.hid (fun (w' : World) (Ba Ea Bb Eb : Nat) (x y : Value) (oa : OwnD Ba Ea w' x a.secs) (ob : RSourceS.own Bb Eb w' y l) => unc_s Ba Bb a l x y w' oa.1 ob.1 na nb ma.out)
  have Fi := Lib.hid (fun (w' : World) (Ba Ea Bb Eb : Nat) (x y : Value) (oa : OwnD Ba Ea w' x a.secs) (ob : RSourceS.own Bb Eb w' y l) => unc_i Ba Bb a l x y w' oa.1 ob.1 na nb ma.out)
  have cntr : RInt64S.cnt (uncE a l).1 ≤ 8388608 := by show (uncE a l).1.length * 1 ≤ _; have := uncE_len a l na; omega
  generalize (uncE a l).1 = f at *
  generalize (uncE a l).2 = K at *
  clear H1 H2 ma
  go_enter Try.func5, Try.ntmps5
  go_wp2_with (fail)
  refine HZ.out.mono ?_; rintro e w1 ⟨rfl, hb1⟩
  replace z0 : w.heap.size + 2 ≤ w1.heap.size := Nat.le_trans z0 hb1.size
  have Ra_w1 := Ra_w0.below hb1 (by simp <;> omega)
  have Rb_w1 := Rb_w0.below hb1 (by simp)
  have B_w1 := B_w0.trans (hb1.mono B_w0.size)
  clear Ra_w0 Rb_w0 B_w0 HZ hb1
  have k0 := Rb_w1.one
  go_wp2_with (fail)
  refine (HZn.out w1 B_w1).mono ?_; rintro e w2 ⟨rfl, hb2⟩
  clear k0
  have z_w2 : w1.heap.size ≤ w2.heap.size := hb2.size
  have B_w2 : Below w.heap.size w w2 := B_w1.trans (hb2.mono (by omega))
  have Ra_w2 := Ra_w1.below hb2 (by omega)
  have Rb_w2 := Rb_w1.below hb2 (by omega)
  clear B_w1 Ra_w1 Rb_w1
  clear HZn
  go_wp2_with (fail)
  have Ra_d := Ra_w2.below (Below.refl _ _).drew (by omega)
  have Rb_d := Rb_w2.below (Below.refl _ _).drew (by omega)
  have B_d := B_w2.drew
  go_region_held3 (fun w' => Five a (.slice A a.secs.length c) (w.heap.size) w' ∧ w'.cell? ⟨w.heap.size + 1, 0, none⟩ = some (.slice A' l.length c'))
    (first | exact ⟨Ra_d.five, Rb_d.one⟩ | exact ⟨(Ra_d.below hb_w3 (by  show w.heap.size < _; show _ < w2.heap.size; omega)).five, (Rb_d.below hb_w3 (by  show w.heap.size + 1 < _; show _ < w2.heap.size; omega)).one⟩ | exact ⟨((Ra_d.below hb_w3 (by  show w.heap.size < _; show _ < w2.heap.size; omega)).below hb_w4 (by have q0 : _ ≤ _ := hb_w3.size; (replace q0 : w2.heap.size ≤ _ := q0);  show w.heap.size < _;  omega)).five, ((Rb_d.below hb_w3 (by  show w.heap.size + 1 < _; show _ < w2.heap.size; omega)).below hb_w4 (by have q0 : _ ≤ _ := hb_w3.size; (replace q0 : w2.heap.size ≤ _ := q0);  show w.heap.size + 1 < _;  omega)).one⟩ | exact ⟨(((Ra_d.below hb_w3 (by  show w.heap.size < _; show _ < w2.heap.size; omega)).below hb_w4 (by have q0 : _ ≤ _ := hb_w3.size; (replace q0 : w2.heap.size ≤ _ := q0);  show w.heap.size < _;  omega)).below hb_w5 (by have q0 : _ ≤ _ := hb_w3.size; (replace q0 : w2.heap.size ≤ _ := q0); have q1 : _ ≤ _ := hb_w4.size;  show w.heap.size < _;  omega)).five, (((Rb_d.below hb_w3 (by  show w.heap.size + 1 < _; show _ < w2.heap.size; omega)).below hb_w4 (by have q0 : _ ≤ _ := hb_w3.size; (replace q0 : w2.heap.size ≤ _ := q0);  show w.heap.size + 1 < _;  omega)).below hb_w5 (by have q0 : _ ≤ _ := hb_w3.size; (replace q0 : w2.heap.size ≤ _ := q0); have q1 : _ ≤ _ := hb_w4.size;  show w.heap.size + 1 < _;  omega)).one⟩)
    (first | (go_at_call 19; refine (Fs.out _ _ _ _ _ _ _ (OwnD.below o_w3 hb_w4) o_w4).mono ?_; rintro e w5 ⟨v_w5, rfl, o_w5, hb_w5⟩) | (go_at_call 9; refine (Tb.out w3 (B_d.trans (hb_w3.mono B_d.size))).mono ?_; rintro e w4 ⟨A_w4, c_w4, rfl, o_w4, hb_w4⟩) | (go_at_call 20; refine (Ta.out _ B_d).mono ?_; rintro e w3 ⟨A_w3, c_w3, rfl, o_w3, hb_w3⟩))
  replace hb_w3 : Below w2.heap.size w2 w3 := ((Below.refl w2.heap.size w2).drew).trans hb_w3
  clear Ra_d Rb_d B_d o_w3 o_w4
  have z_w3 : w2.heap.size ≤ w3.heap.size := hb_w3.size
  have B_w3 : Below w.heap.size w w3 := B_w2.trans (hb_w3.mono (by omega))
  have Ra_w3 := Ra_w2.below hb_w3 (by omega)
  have Rb_w3 := Rb_w2.below hb_w3 (by omega)
  clear B_w2 Ra_w2 Rb_w2
  have z_w4 : w3.heap.size ≤ w4.heap.size := hb_w4.size
  have B_w4 : Below w.heap.size w w4 := B_w3.trans (hb_w4.mono (by omega))
  have Ra_w4 := Ra_w3.below hb_w4 (by omega)
  have Rb_w4 := Rb_w3.below hb_w4 (by omega)
  clear B_w3 Ra_w3 Rb_w3
  have z_w5 : w4.heap.size ≤ w5.heap.size := hb_w5.size
  have B_w5 : Below w.heap.size w w5 := B_w4.trans (hb_w5.mono (by omega))
  have Ra_w5 := Ra_w4.below hb_w5 (by omega)
  have Rb_w5 := Rb_w4.below hb_w5 (by omega)
  clear B_w4 Ra_w4 Rb_w4
  obtain ⟨k0, k1, k2, k3, k4⟩ := Ra_w5.five
  go_wp2_with (fail)
  refine (Ta.out w5 B_w5).mono ?_; rintro e w7 ⟨A_w7, c_w7, rfl, o_w7, hb_w7⟩
  clear k0 k1 k2 k3 k4
  have z_w7 : w5.heap.size ≤ w7.heap.size := hb_w7.size
  have B_w7 : Below w.heap.size w w7 := B_w5.trans (hb_w7.mono (by omega))
  have Ra_w7 := Ra_w5.below hb_w7 (by omega)
  have Rb_w7 := Rb_w5.below hb_w7 (by omega)
  have Ow_w7 := Rep.keep (R := RInt64S) o_w5 hb_w7
  clear B_w5 Ra_w5 Rb_w5 o_w5
  have HA_w8 : Below w7.heap.size w7 (w7.alloc (.cells #[.int .i64 a.cyl, .int .i64 a.heads, .int .i64 a.per, .int .i64 a.size, (.slice A_w7 a.secs.length c_w7)] 46)) := Below.alloc (Below.refl _ _) (Nat.le_refl _) _
  have zz_w8 : w7.heap.size + 1 = ((w7.alloc (.cells #[.int .i64 a.cyl, .int .i64 a.heads, .int .i64 a.per, .int .i64 a.size, (.slice A_w7 a.secs.length c_w7)] 46))).heap.size := by simp
  have B_w8 : Below w.heap.size w (w7.alloc (.cells #[.int .i64 a.cyl, .int .i64 a.heads, .int .i64 a.per, .int .i64 a.size, (.slice A_w7 a.secs.length c_w7)] 46)) := B_w7.trans (HA_w8.mono (by omega))
  have Ra_w8 := Ra_w7.below HA_w8 (by omega)
  have Rb_w8 := Rb_w7.below HA_w8 (by omega)
  have Ow_w8 := Rep.keep (R := RInt64S) Ow_w7 HA_w8
  have O9_w8 := OwnD.below o_w7 HA_w8
  have R9_w8 : Row (w7.alloc (.cells #[.int .i64 a.cyl, .int .i64 a.heads, .int .i64 a.per, .int .i64 a.size, (.slice A_w7 a.secs.length c_w7)] 46)) w7.heap.size (dscL a (.slice A_w7 a.secs.length c_w7)) := Row.alloc w7 _ _
  clear B_w7 Ra_w7 Rb_w7 Ow_w7 o_w7
  have k0 := Rb_w8.one
  go_wp2_with (fail)
  generalize (w7.alloc (.cells #[.int .i64 a.cyl, .int .i64 a.heads, .int .i64 a.per, .int .i64 a.size, (.slice A_w7 a.secs.length c_w7)] 46)) = w8 at *
  refine (Tb.out w8 B_w8).mono ?_; rintro e w9 ⟨A_w9, c_w9, rfl, o_w9, hb_w9⟩
  clear k0
  have z_w9 : w8.heap.size ≤ w9.heap.size := hb_w9.size
  have B_w9 : Below w.heap.size w w9 := B_w8.trans (hb_w9.mono (by omega))
  have Ra_w9 := Ra_w8.below hb_w9 (by omega)
  have Rb_w9 := Rb_w8.below hb_w9 (by omega)
  have R9_w9 := R9_w8.below hb_w9 (by omega)
  have Ow_w9 := Rep.keep (R := RInt64S) Ow_w8 hb_w9
  have O9_w9 := OwnD.below O9_w8 hb_w9
  clear B_w8 Ra_w8 Rb_w8 R9_w8 Ow_w8 O9_w8
  have HA_w10 : Below w9.heap.size w9 (w9.alloc (.cells #[(.slice A_w9 l.length c_w9)] 29)) := Below.alloc (Below.refl _ _) (Nat.le_refl _) _
  have zz_w10 : w9.heap.size + 1 = ((w9.alloc (.cells #[(.slice A_w9 l.length c_w9)] 29))).heap.size := by simp
  have B_w10 : Below w.heap.size w (w9.alloc (.cells #[(.slice A_w9 l.length c_w9)] 29)) := B_w9.trans (HA_w10.mono (by omega))
  have Ra_w10 := Ra_w9.below HA_w10 (by omega)
  have Rb_w10 := Rb_w9.below HA_w10 (by omega)
  have R9_w10 := R9_w9.below HA_w10 (by omega)
  have Ow_w10 := Rep.keep (R := RInt64S) Ow_w9 HA_w10
  have O9_w10 := OwnD.below O9_w9 HA_w10
  have O10_w10 := Rep.keep (R := RSourceS) o_w9 HA_w10
  have R10_w10 : Row (w9.alloc (.cells #[(.slice A_w9 l.length c_w9)] 29)) w9.heap.size [(.slice A_w9 l.length c_w9)] := Row.alloc w9 _ _
  clear B_w9 Ra_w9 Rb_w9 R9_w9 Ow_w9 O9_w9 o_w9
  obtain ⟨k0, k1, k2, k3, k4⟩ := R9_w10.five
  have j0 := R10_w10.one
  go_wp2_with (fail)
  generalize (w9.alloc (.cells #[(.slice A_w9 l.length c_w9)] 29)) = w10 at *
  refine (Fi.out w10 _ _ _ _ _ _ O9_w10 O10_w10).mono ?_; rintro e w11 ⟨v_w11, rfl, o_w11, hb_w11⟩
  clear k0 k1 k2 k3 k4
  clear j0
  have z_w11 : w10.heap.size ≤ w11.heap.size := hb_w11.size
  have B_w11 : Below w.heap.size w w11 := B_w10.trans (hb_w11.mono (by omega))
  have Ra_w11 := Ra_w10.below hb_w11 (by omega)
  have Rb_w11 := Rb_w10.below hb_w11 (by omega)
  have R9_w11 := R9_w10.below hb_w11 (by omega)
  have R10_w11 := R10_w10.below hb_w11 (by omega)
  have Ow_w11 := Rep.keep (R := RInt64S) Ow_w10 hb_w11
  have O9_w11 := OwnD.below O9_w10 hb_w11
  have O10_w11 := Rep.keep (R := RSourceS) O10_w10 hb_w11
  clear B_w10 Ra_w10 Rb_w10 R9_w10 R10_w10 Ow_w10 O9_w10 O10_w10
  go_wp2_with (fail)
  refine (r_eqInt64S f _ _ _ _ _ _ _ o_w11 Ow_w11 cntr).mono ?_; rintro e w12 ⟨rfl, hb_w12⟩
  have z_w12 : w11.heap.size ≤ w12.heap.size := hb_w12.size
  have B_w12 : Below w.heap.size w w12 := B_w11.trans (hb_w12.mono (by omega))
  have Ra_w12 := Ra_w11.below hb_w12 (by omega)
  have Rb_w12 := Rb_w11.below hb_w12 (by omega)
  have R9_w12 := R9_w11.below hb_w12 (by omega)
  have R10_w12 := R10_w11.below hb_w12 (by omega)
  have Ow_w12 := Rep.keep (R := RInt64S) Ow_w11 hb_w12
  have O9_w12 := OwnD.below O9_w11 hb_w12
  have O10_w12 := Rep.keep (R := RSourceS) O10_w11 hb_w12
  have Og_w12 := Rep.keep (R := RInt64S) o_w11 hb_w12
  clear B_w11 Ra_w11 Rb_w11 R9_w11 R10_w11 Ow_w11 O9_w11 O10_w11 o_w11
  go_wp2_with (fail)
  have Ob_d := OwnD.below O9_w12 (Below.refl _ _).drew
  have Ra_d := Ra_w12.below (Below.refl _ _).drew (by omega)
  have R9_d := R9_w12.below (Below.refl _ _).drew (by omega)
  have B_d := B_w12.drew
  go_region_held3 (fun w' => Five a (.slice A a.secs.length c) (w.heap.size) w' ∧ Five a (.slice A_w7 a.secs.length c_w7) (w7.heap.size) w')
    (first | exact ⟨Ra_d.five, R9_d.five⟩ | exact ⟨(Ra_d.below hb_w14 (by  show w.heap.size < _; show _ < w12.heap.size; omega)).five, (R9_d.below hb_w14 (by  show w7.heap.size < _; show _ < w12.heap.size; omega)).five⟩ | exact ⟨((Ra_d.below hb_w14 (by  show w.heap.size < _; show _ < w12.heap.size; omega)).below hb_w15 (by have q0 : _ ≤ _ := hb_w14.size; (replace q0 : w12.heap.size ≤ _ := q0);  show w.heap.size < _;  omega)).five, ((R9_d.below hb_w14 (by  show w7.heap.size < _; show _ < w12.heap.size; omega)).below hb_w15 (by have q0 : _ ≤ _ := hb_w14.size; (replace q0 : w12.heap.size ≤ _ := q0);  show w7.heap.size < _;  omega)).five⟩)
    (first | (go_at_call 20; refine (Ta.out _ B_d).mono ?_; rintro e w14 ⟨A_w14, c_w14, rfl, o_w14, hb_w14⟩) | (go_at_call 22; refine (eqDsc a _ _ _ _ w14 (Ob_d.below hb_w14).1 o_w14.1 (by omega)).mono ?_; rintro e w15 ⟨rfl, hb_w15⟩))
  replace hb_w14 : Below w12.heap.size w12 w14 := ((Below.refl w12.heap.size w12).drew).trans hb_w14
  clear Ra_d R9_d B_d Ob_d o_w14
  have z_w14 : w12.heap.size ≤ w14.heap.size := hb_w14.size
  have B_w14 : Below w.heap.size w w14 := B_w12.trans (hb_w14.mono (by omega))
  have Ra_w14 := Ra_w12.below hb_w14 (by omega)
  have Rb_w14 := Rb_w12.below hb_w14 (by omega)
  have R9_w14 := R9_w12.below hb_w14 (by omega)
  have R10_w14 := R10_w12.below hb_w14 (by omega)
  have Ow_w14 := Rep.keep (R := RInt64S) Ow_w12 hb_w14
  have O9_w14 := OwnD.below O9_w12 hb_w14
  have O10_w14 := Rep.keep (R := RSourceS) O10_w12 hb_w14
  have Og_w14 := Rep.keep (R := RInt64S) Og_w12 hb_w14
  clear B_w12 Ra_w12 Rb_w12 R9_w12 R10_w12 Ow_w12 O9_w12 O10_w12 Og_w12
  have z_w15 : w14.heap.size ≤ w15.heap.size := hb_w15.size
  have B_w15 : Below w.heap.size w w15 := B_w14.trans (hb_w15.mono (by omega))
  have Ra_w15 := Ra_w14.below hb_w15 (by omega)
  have Rb_w15 := Rb_w14.below hb_w15 (by omega)
  have R9_w15 := R9_w14.below hb_w15 (by omega)
  have R10_w15 := R10_w14.below hb_w15 (by omega)
  have Ow_w15 := Rep.keep (R := RInt64S) Ow_w14 hb_w15
  have O9_w15 := OwnD.below O9_w14 hb_w15
  have O10_w15 := Rep.keep (R := RSourceS) O10_w14 hb_w15
  have Og_w15 := Rep.keep (R := RInt64S) Og_w14 hb_w15
  clear B_w14 Ra_w14 Rb_w14 R9_w14 R10_w14 Ow_w14 O9_w14 O10_w14 Og_w14
  go_wp2_with (fail)
  have Ob_d := Rep.keep (R := RSourceS) O10_w15 (Below.refl _ _).drew
  have Rb_d := Rb_w15.below (Below.refl _ _).drew (by omega)
  have R10_d := R10_w15.below (Below.refl _ _).drew (by omega)
  have B_d := B_w15.drew
  go_region_held3 (fun w' => w'.cell? ⟨w.heap.size + 1, 0, none⟩ = some (.slice A' l.length c') ∧ w'.cell? ⟨w9.heap.size, 0, none⟩ = some (.slice A_w9 l.length c_w9))
    (first | exact ⟨Rb_d.one, R10_d.one⟩ | exact ⟨(Rb_d.below hb_w16 (by  show w.heap.size + 1 < _; show _ < w15.heap.size; omega)).one, (R10_d.below hb_w16 (by  show w9.heap.size < _; show _ < w15.heap.size; omega)).one⟩ | exact ⟨((Rb_d.below hb_w16 (by  show w.heap.size + 1 < _; show _ < w15.heap.size; omega)).below hb_w17 (by have q0 : _ ≤ _ := hb_w16.size; (replace q0 : w15.heap.size ≤ _ := q0);  show w.heap.size + 1 < _;  omega)).one, ((R10_d.below hb_w16 (by  show w9.heap.size < _; show _ < w15.heap.size; omega)).below hb_w17 (by have q0 : _ ≤ _ := hb_w16.size; (replace q0 : w15.heap.size ≤ _ := q0);  show w9.heap.size < _;  omega)).one⟩)
    (first | (go_at_call 9; refine (Tb.out _ B_d).mono ?_; rintro e w16 ⟨A_w16, c_w16, rfl, o_w16, hb_w16⟩) | (go_at_call 11; refine (eqCert l _ _ _ _ _ _ _ (Rep.keep (R := RSourceS) Ob_d hb_w16) o_w16 cntl).mono ?_; rintro e w17 ⟨rfl, hb_w17⟩))
  replace hb_w16 : Below w15.heap.size w15 w16 := ((Below.refl w15.heap.size w15).drew).trans hb_w16
  clear Rb_d R10_d B_d Ob_d o_w16
  have z_w16 : w15.heap.size ≤ w16.heap.size := hb_w16.size
  have B_w16 : Below w.heap.size w w16 := B_w15.trans (hb_w16.mono (by omega))
  have Ra_w16 := Ra_w15.below hb_w16 (by omega)
  have Rb_w16 := Rb_w15.below hb_w16 (by omega)
  have R9_w16 := R9_w15.below hb_w16 (by omega)
  have R10_w16 := R10_w15.below hb_w16 (by omega)
  have Ow_w16 := Rep.keep (R := RInt64S) Ow_w15 hb_w16
  have O9_w16 := OwnD.below O9_w15 hb_w16
  have O10_w16 := Rep.keep (R := RSourceS) O10_w15 hb_w16
  have Og_w16 := Rep.keep (R := RInt64S) Og_w15 hb_w16
  clear B_w15 Ra_w15 Rb_w15 R9_w15 R10_w15 Ow_w15 O9_w15 O10_w15 Og_w15
  have z_w17 : w16.heap.size ≤ w17.heap.size := hb_w17.size
  have B_w17 : Below w.heap.size w w17 := B_w16.trans (hb_w17.mono (by omega))
  have Ra_w17 := Ra_w16.below hb_w17 (by omega)
  have Rb_w17 := Rb_w16.below hb_w17 (by omega)
  have R9_w17 := R9_w16.below hb_w17 (by omega)
  have R10_w17 := R10_w16.below hb_w17 (by omega)
  have Ow_w17 := Rep.keep (R := RInt64S) Ow_w16 hb_w17
  have O9_w17 := OwnD.below O9_w16 hb_w17
  have O10_w17 := Rep.keep (R := RSourceS) O10_w16 hb_w17
  have Og_w17 := Rep.keep (R := RInt64S) Og_w16 hb_w17
  clear B_w16 Ra_w16 Rb_w16 R9_w16 R10_w16 Ow_w16 O9_w16 O10_w16 Og_w16
  obtain ⟨k0, k1, k2, k3, k4⟩ := R9_w17.five
  go_wp2_with (fail)
  refine (markDsc a _ 1 _ _ w17 O9_w17 (by omega) (by omega) (by omega)).mono ?_; rintro e w18 ⟨rfl, om_w18, hc_w18⟩
  clear k0 k1 k2 k3 k4
  have z_w18 : w17.heap.size ≤ w18.heap.size := hc_w18.size
  have B_w18 : Below w.heap.size w w18 := Chg.below B_w17 hc_w18 (by omega) (Nat.le_refl _)
  have Ra_w18 := Ra_w17.chg hc_w18 (by omega) (by omega)
  have Rb_w18 := Rb_w17.chg hc_w18 (by omega) (by omega)
  have R9_w18 := R9_w17.chg hc_w18 (by omega) (by omega)
  have R10_w18 := R10_w17.chg hc_w18 (by omega) (by omega)
  have Ow_w18 := RInt64S.chg Ow_w17 hc_w18 (by omega)
  have O10_w18 := RSourceS.chg O10_w17 hc_w18 (by omega)
  have Og_w18 := RInt64S.chg Og_w17 hc_w18 (by omega)
  clear B_w17 Ra_w17 Rb_w17 R9_w17 R10_w17 Ow_w17 O9_w17 O10_w17 Og_w17
  have k0 := R10_w18.one
  go_wp2_with (fail)
  refine (markCert l _ (1 + a.secs.length * 2) _ _ w18 O10_w18 (by omega) cntl (by omega) (by omega)).mono ?_; rintro e w19 ⟨rfl, om_w19, hc_w19⟩
  clear k0
  have z_w19 : w18.heap.size ≤ w19.heap.size := hc_w19.size
  have B_w19 : Below w.heap.size w w19 := Chg.below B_w18 hc_w19 (by omega) (Nat.le_refl _)
  have Ra_w19 := Ra_w18.chg hc_w19 (by omega) (by omega)
  have Rb_w19 := Rb_w18.chg hc_w19 (by omega) (by omega)
  have R9_w19 := R9_w18.chg hc_w19 (by omega) (by omega)
  have R10_w19 := R10_w18.chg hc_w19 (by omega) (by omega)
  have Ow_w19 := RInt64S.chg Ow_w18 hc_w19 (by omega)
  have O9_w19 := OwnD.chg om_w18 hc_w19 (by omega)
  have Og_w19 := RInt64S.chg Og_w18 hc_w19 (by omega)
  clear B_w18 Ra_w18 Rb_w18 R9_w18 R10_w18 Ow_w18 om_w18 O10_w18 Og_w18
  have dk : decide (((1 + a.secs.length * 2 + RSourceS.cnt l : Nat) : Int) < 0) = false := by simp; omega
  clear O9_w19
  clear om_w19
  clear R9_w19
  clear R10_w19
  go_wp2_with (fail)
  refine (r_eqInt64S f _ _ _ _ _ _ _ Og_w19 Ow_w19 cntr).mono ?_; rintro e w20 ⟨rfl, hb_w20⟩
  have z_w20 : w19.heap.size ≤ w20.heap.size := hb_w20.size
  have B_w20 : Below w.heap.size w w20 := B_w19.trans (hb_w20.mono (by omega))
  have Ra_w20 := Ra_w19.below hb_w20 (by omega)
  have Rb_w20 := Rb_w19.below hb_w20 (by omega)
  have Ow_w20 := Rep.keep (R := RInt64S) Ow_w19 hb_w20
  have Og_w20 := Rep.keep (R := RInt64S) Og_w19 hb_w20
  clear B_w19 Ra_w19 Rb_w19 Ow_w19 Og_w19
  go_wp2_with (fail)
  refine (r_markInt64S f _ 1 _ _ _ Og_w20 cntr (by omega) (by omega)).mono ?_; rintro e w21 ⟨rfl, om_w21, hc_w21⟩
  have z_w21 : w20.heap.size ≤ w21.heap.size := hc_w21.size
  have B_w21 : Below w.heap.size w w21 := Chg.below B_w20 hc_w21 (by omega) (Nat.le_refl _)
  have Ra_w21 := Ra_w20.chg hc_w21 (by omega) (by omega)
  have Rb_w21 := Rb_w20.chg hc_w21 (by omega) (by omega)
  have Ow_w21 := RInt64S.chg Ow_w20 hc_w21 (by omega)
  clear B_w20 Ra_w20 Rb_w20 Ow_w20 Og_w20
  go_wp2_with (fail)
  refine (r_heldInt64S f _ 1 _ _ _ om_w21 cntr (by omega) (by omega)).mono ?_; rintro e w22 ⟨rfl, hb_w22⟩
  have z_w22 : w21.heap.size ≤ w22.heap.size := hb_w22.size
  have B_w22 : Below w.heap.size w w22 := B_w21.trans (hb_w22.mono (by omega))
  have Ra_w22 := Ra_w21.below hb_w22 (by omega)
  have Rb_w22 := Rb_w21.below hb_w22 (by omega)
  have Ow_w22 := Rep.keep (R := RInt64S) Ow_w21 hb_w22
  have Og_w22 := Rep.keep (R := RInt64S) om_w21 hb_w22
  clear B_w21 Ra_w21 Rb_w21 Ow_w21 om_w21
  go_wp2_with (fail)
  have Ra_d := Ra_w22.below (Below.refl _ _).drew (by omega)
  have Rb_d := Rb_w22.below (Below.refl _ _).drew (by omega)
  have B_d := B_w22.drew
  go_region_held3 (fun w' => Five a (.slice A a.secs.length c) (w.heap.size) w' ∧ w'.cell? ⟨w.heap.size + 1, 0, none⟩ = some (.slice A' l.length c'))
    (first | exact ⟨Ra_d.five, Rb_d.one⟩ | exact ⟨(Ra_d.below hb_w23 (by  show w.heap.size < _; show _ < w22.heap.size; omega)).five, (Rb_d.below hb_w23 (by  show w.heap.size + 1 < _; show _ < w22.heap.size; omega)).one⟩ | exact ⟨((Ra_d.below hb_w23 (by  show w.heap.size < _; show _ < w22.heap.size; omega)).below hb_w24 (by have q0 : _ ≤ _ := hb_w23.size; (replace q0 : w22.heap.size ≤ _ := q0);  show w.heap.size < _;  omega)).five, ((Rb_d.below hb_w23 (by  show w.heap.size + 1 < _; show _ < w22.heap.size; omega)).below hb_w24 (by have q0 : _ ≤ _ := hb_w23.size; (replace q0 : w22.heap.size ≤ _ := q0);  show w.heap.size + 1 < _;  omega)).one⟩ | exact ⟨(((Ra_d.below hb_w23 (by  show w.heap.size < _; show _ < w22.heap.size; omega)).below hb_w24 (by have q0 : _ ≤ _ := hb_w23.size; (replace q0 : w22.heap.size ≤ _ := q0);  show w.heap.size < _;  omega)).below hb_w25 (by have q0 : _ ≤ _ := hb_w23.size; (replace q0 : w22.heap.size ≤ _ := q0); have q1 : _ ≤ _ := hb_w24.size;  show w.heap.size < _;  omega)).five, (((Rb_d.below hb_w23 (by  show w.heap.size + 1 < _; show _ < w22.heap.size; omega)).below hb_w24 (by have q0 : _ ≤ _ := hb_w23.size; (replace q0 : w22.heap.size ≤ _ := q0);  show w.heap.size + 1 < _;  omega)).below hb_w25 (by have q0 : _ ≤ _ := hb_w23.size; (replace q0 : w22.heap.size ≤ _ := q0); have q1 : _ ≤ _ := hb_w24.size;  show w.heap.size + 1 < _;  omega)).one⟩)
    (first | (go_at_call 21; refine (Fi.out _ _ _ _ _ _ _ (OwnD.below o_w23 hb_w24) o_w24).mono ?_; rintro e w25 ⟨v_w25, rfl, o_w25, hb_w25⟩) | (go_at_call 9; refine (Tb.out w23 (B_d.trans (hb_w23.mono B_d.size))).mono ?_; rintro e w24 ⟨A_w24, c_w24, rfl, o_w24, hb_w24⟩) | (go_at_call 20; refine (Ta.out _ B_d).mono ?_; rintro e w23 ⟨A_w23, c_w23, rfl, o_w23, hb_w23⟩))
  replace hb_w23 : Below w22.heap.size w22 w23 := ((Below.refl w22.heap.size w22).drew).trans hb_w23
  clear Ra_d Rb_d B_d o_w23 o_w24
  have z_w23 : w22.heap.size ≤ w23.heap.size := hb_w23.size
  have B_w23 : Below w.heap.size w w23 := B_w22.trans (hb_w23.mono (by omega))
  have Ra_w23 := Ra_w22.below hb_w23 (by omega)
  have Rb_w23 := Rb_w22.below hb_w23 (by omega)
  have Ow_w23 := Rep.keep (R := RInt64S) Ow_w22 hb_w23
  have Og_w23 := Rep.keep (R := RInt64S) Og_w22 hb_w23
  clear B_w22 Ra_w22 Rb_w22 Ow_w22 Og_w22
  have z_w24 : w23.heap.size ≤ w24.heap.size := hb_w24.size
  have B_w24 : Below w.heap.size w w24 := B_w23.trans (hb_w24.mono (by omega))
  have Ra_w24 := Ra_w23.below hb_w24 (by omega)
  have Rb_w24 := Rb_w23.below hb_w24 (by omega)
  have Ow_w24 := Rep.keep (R := RInt64S) Ow_w23 hb_w24
  have Og_w24 := Rep.keep (R := RInt64S) Og_w23 hb_w24
  clear B_w23 Ra_w23 Rb_w23 Ow_w23 Og_w23
  have z_w25 : w24.heap.size ≤ w25.heap.size := hb_w25.size
  have B_w25 : Below w.heap.size w w25 := B_w24.trans (hb_w25.mono (by omega))
  have Ra_w25 := Ra_w24.below hb_w25 (by omega)
  have Rb_w25 := Rb_w24.below hb_w25 (by omega)
  have Ow_w25 := Rep.keep (R := RInt64S) Ow_w24 hb_w25
  have Og_w25 := Rep.keep (R := RInt64S) Og_w24 hb_w25
  clear B_w24 Ra_w24 Rb_w24 Ow_w24 Og_w24
  go_wp2_with (fail)
  refine (r_eqInt64S f _ _ _ _ _ _ _ o_w25 Ow_w25 cntr).mono ?_; rintro e w26 ⟨rfl, hb_w26⟩
  have z_w26 : w25.heap.size ≤ w26.heap.size := hb_w26.size
  have B_w26 : Below w.heap.size w w26 := B_w25.trans (hb_w26.mono (by omega))
  have Ra_w26 := Ra_w25.below hb_w26 (by omega)
  have Rb_w26 := Rb_w25.below hb_w26 (by omega)
  have Ow_w26 := Rep.keep (R := RInt64S) Ow_w25 hb_w26
  have Og_w26 := Rep.keep (R := RInt64S) Og_w25 hb_w26
  have Oh_w26 := Rep.keep (R := RInt64S) o_w25 hb_w26
  clear B_w25 Ra_w25 Rb_w25 Ow_w25 Og_w25 o_w25
  go_wp2_with (fail)
  refine (r_heldInt64S f _ 1 _ _ _ Og_w26 cntr (by omega) (by omega)).mono ?_; rintro e w27 ⟨rfl, hb_w27⟩
  have z_w27 : w26.heap.size ≤ w27.heap.size := hb_w27.size
  have B_w27 : Below w.heap.size w w27 := B_w26.trans (hb_w27.mono (by omega))
  have Ra_w27 := Ra_w26.below hb_w27 (by omega)
  have Rb_w27 := Rb_w26.below hb_w27 (by omega)
  have Ow_w27 := Rep.keep (R := RInt64S) Ow_w26 hb_w27
  have Og_w27 := Rep.keep (R := RInt64S) Og_w26 hb_w27
  have Oh_w27 := Rep.keep (R := RInt64S) Oh_w26 hb_w27
  clear B_w26 Ra_w26 Rb_w26 Ow_w26 Og_w26 Oh_w26
  go_wp2
  go_ret
  exact ⟨rfl, B_w27⟩
end Go.Proofs.Ytjkfkjbakokjeaa
