/- The walk of FnExactRepairDisc. Printed by gen_rp.py. -/
import Derived.Test.YtfcdienphillnaaGreatLr01
import Derived.Test.YtfcdienphillnaaGreatLr02
import Derived.Test.YtfcdienphillnaaGreatLr03
import Derived.Test.YtfcdienphillnaaGreatLr04
import Derived.Test.YtfcdienphillnaaGreatLr05
import Derived.Test.YtfcdienphillnaaGreatLr06
import Derived.Test.YtfcdienphillnaaGreatLr07
import Derived.Test.YtfcdienphillnaaGreatLr08
import Derived.Test.YtfcdienphillnaaGreatLr09
import Derived.Test.YtfcdienphillnaaGreatLr10
import Derived.Test.YtfcdienphillnaaGreatLr11
import Derived.Test.YtfcdienphillnaaGreatLr12
import Derived.Test.YtfcdienphillnaaGreatLr13
import Derived.Test.YtfcdienphillnaaGreatLr14
import Derived.Test.YtfcdienphillnaaGreatLr15
import Derived.Test.YtfcdienphillnaaGreatLr16
import Derived.Test.YtfcdienphillnaaGreatLr17
import Derived.Test.YtfcdienphillnaaGreatLr18
import Derived.Test.YtfcdienphillnaaGreatLr19
import Derived.Test.YtfcdienphillnaaGreatLr20
import Derived.Test.YtfcdienphillnaaGreatLr21
import Derived.Test.YtfcdienphillnaaGreatLr22
import Derived.Test.YtfcdienphillnaaGreatLr23
import Derived.Test.YtfcdienphillnaaGreatLr24
import Derived.Test.YtfcdienphillnaaGreatLr25
import Derived.Test.YtfcdienphillnaaGreatLr26
import Derived.Test.YtfcdienphillnaaGreatLr27
import Derived.Test.YtfcdienphillnaaGreatLr28
import Derived.Test.YtfcdienphillnaaGreatLr29
import Derived.Test.YtfcdienphillnaaGreatLr30
import Derived.Test.YtfcdienphillnaaGreatLr31
import Derived.Test.YtfcdienphillnaaGreatLr32
import Derived.Test.YtfcdienphillnaaGreatLr33
import Derived.Test.YtfcdienphillnaaGreatLr34
import Derived.Test.YtfcdienphillnaaGreatLr35
import Derived.Test.YtfcdienphillnaaGreatLr36
import Derived.Test.YtfcdienphillnaaGreatLr37
import Derived.Test.YtfcdienphillnaaGreatLr38
import Derived.Test.YtfcdienphillnaaGreatLr39
import Derived.Test.YtfcdienphillnaaGreatLr40
import Derived.Test.YtfcdienphillnaaGreatLr42
import Derived.Test.YtfcdienphillnaaGreatLr43
import Derived.Test.YtfcdienphillnaaGreatRx01
import Derived.Test.YtfcdienphillnaaGreatRx02
import Derived.WalkKit
import Derived.WalkSpells
import Derived.WalkLawsBesides
import Derived.Deep.QuietTactic
import Derived.BigQuiet
import Derived.Lib.Hide
import Derived.Laws.AppendOwnNone
import Derived.StillTailTactics
import Derived.Laws.BytesArg
import Derived.Lib.ConvBytes
import Derived.Shelf.Strings.Repeat
import Derived.Deep.WholeRow
import Derived.Maps.AppendAt
import Derived.Shelf.Strconv.Itoa0
import Derived.Deep.RegionHeld3
import Derived.Deep.AppendLies
import Derived.Shelf.SlSortCmp.WholeK
import Derived.Shelf.SlSortCmp.NoneTotal
import Derived.Shelf.SlGeneric
import Derived.ProofKit
import Derived.OpenShut
import Derived.ShutString
import Derived.ChangeOld
import Derived.Below
import Derived.Lib.SmallJoins
import Derived.Deep.Slices
namespace Go.Proofs.YtfcdienphillnaaGreat
open Go.RowKit
set_option maxRecDepth 20000 in
set_option maxHeartbeats 8000000 in
theorem walkFnExactRepairDisc (e : Evd) (w : World) {va vb vc vd : Value} (h : EvIn w e va vb vc vd) :
    Calls Tryz.prog 6 #[evV va vb vc vd] w fun r w' => r = .returned (.bool true) ∧ Below w.heap.size w w' := by
  have H1 := Lib.hid h
  obtain ⟨A, n, hv, _, _⟩ := h.ds
  obtain ⟨B', k', hv1, _, _⟩ := h.cr
  obtain ⟨⟨C, i, hv2, _, _⟩, _⟩ := h.p
  obtain ⟨⟨D, j, hv3, _, _⟩, _⟩ := h.q
  subst hv hv1 hv2 hv3
  clear h
  have R0 : Row (w.alloc (.cells #[.slice A e.ds.length n, .slice B' e.cr.length k', .slice C e.p.length i, .slice D e.q.length j] 26)) w.heap.size [.slice A e.ds.length n, .slice B' e.cr.length k', .slice C e.p.length i, .slice D e.q.length j] := Row.alloc w _ _
  have B0 : Below w.heap.size w (w.alloc (.cells #[.slice A e.ds.length n, .slice B' e.cr.length k', .slice C e.p.length i, .slice D e.q.length j] 26)) := Below.alloc (Below.refl _ _) (Nat.le_refl _) _
  have z0 : w.heap.size + 1 = ((w.alloc (.cells #[.slice A e.ds.length n, .slice B' e.cr.length k', .slice C e.p.length i, .slice D e.q.length j] 26))).heap.size := by simp
  have HZ := Lib.hid (szEvd e _ _ _ _ 1048576 (w.alloc (.cells #[.slice A e.ds.length n, .slice B' e.cr.length k', .slice C e.p.length i, .slice D e.q.length j] 26)) (H1.out.below B0) ⟨by omega, by omega⟩)
  have c0 := R0 0 _ rfl
  have c1 := R0 1 _ rfl
  have c2 := R0 2 _ rfl
  have c3 := R0 3 _ rfl
  by_cases q1 : evZ 1048576 e < 0
  · generalize evZ 1048576 e = x at *
    have d1 : decide (x < 0) = true := by simpa using q1
    go_enter Tryz.func6, Tryz.ntmps6
    go_wp2_with (fail)
    generalize (w.alloc (.cells #[.slice A e.ds.length n, .slice B' e.cr.length k', .slice C e.p.length i, .slice D e.q.length j] 26)) = w0 at *
    refine HZ.out.mono ?_; rintro r w1 ⟨rfl, hb1⟩
    go_wp2_with (fail)
    go_ret
    exact ⟨rfl, B0.trans (hb1.mono (by omega))⟩
  have hw := evZ_small (e := e) (by omega) q1
  have hs := ev_small H1.out hw
  have hcl := evC_le hw
  obtain ⟨hw1, hw2, hw3, hw4⟩ := hw
  generalize evZ 1048576 e = x at *
  have d1 : decide (x < 0) = false := by simpa using q1
  have TE := Lib.hid (fun (w' : World) (hb : Below w.heap.size w w') => toEvd e _ _ _ _ w' (H1.out.below hb) hs.ds hs.secs hs.cr hs.p hs.q)
  have TT := Lib.hid (fun (w' : World) (hb : Below w.heap.size w w') => toEvdT e _ _ _ _ w' (H1.out.below hb) hw1 hs.cr hs.p hs.q)
  have QE := Lib.hid (fun (w' : World) (Ba Bb : Nat) (a b c d a' b' c' d' : Value) (o : EvOwn Ba w' e a b c d) (o' : EvOwn Bb w' e a' b' c' d') => eqEvd e Ba Bb w' o o' (by have := hs.ds; omega) (fun d hd => by have := hs.secs d hd; omega) (by have := hs.cr; omega) (by have := hs.p; omega) (by have := hs.q; omega))
  have ME := Lib.hid (fun (w' : World) (B E : Nat) (a b c d : Value) (o : EvT B E w' e a b c d) (hE : E ≤ w'.heap.size) => markEvd e a b c d 1 B E w' o hE hw1 hs.cr hs.p hs.q hcl.2 (by omega) (by omega))
  have hnd : (rdD e).secs.length ≤ 1048576 ∧ (rdY e).length ≤ 1048576 := by
    by_cases hok : evOk e = true
    · obtain ⟨z, P, m, T, N, F⟩ := rd_f hok
      have h1 : (rdD e).secs = rdS e := by unfold rdD; rw [if_pos hok]
      have h2 : rdY e = rdX e := by unfold rdY; rw [if_pos hok]
      have h3 := F.le
      have h4 := rpY_len (e := e) (z := zSec m) (P := P) N
      rw [h1, h2, F.hx, rdS_len, F.hz, F.hl]
      omega
    · unfold rdD rdY; rw [if_neg hok, if_neg hok]; simp
  have FS := Lib.hid (fun (w' : World) (B : Nat) (a b cc dd : Value) (o : EvOwn B w' e a b cc dd) => rpd_rep (rpd_s B e a b cc dd w' o hs))
  have FI := Lib.hid (fun (w' : World) (B : Nat) (a b cc dd : Value) (o : EvOwn B w' e a b cc dd) => rpd_rep (rpd_i B e a b cc dd w' o hs))
  obtain ⟨nd, nl⟩ := hnd
  have cntl : RSourceS.cnt (rdY e) ≤ 8388608 := by show (rdY e).length * 3 ≤ _; omega
  generalize rdD e = d at *
  generalize rdY e = l at *
  generalize rdC e = K at *
  have hev := hcl.1
  clear hs hcl hw1 hw2 hw3 hw4 H1
  generalize evC e = cE at *
  go_enter Tryz.func6, Tryz.ntmps6
  go_wp2_with (fail)
  generalize (w.alloc (.cells #[.slice A e.ds.length n, .slice B' e.cr.length k', .slice C e.p.length i, .slice D e.q.length j] 26)) = w0 at *
  refine HZ.out.mono ?_; rintro r w1 ⟨rfl, hb1⟩
  clear HZ c0 c1 c2 c3
  have z1 : w0.heap.size ≤ w1.heap.size := hb1.size
  have R1 := R0.below hb1 (by omega)
  have B1 : Below w.heap.size w w1 := B0.trans (hb1.mono (by omega))
  clear R0 B0
  obtain ⟨c0, c1, c2, c3⟩ := R1.four
  go_wp2_with (fail)
  refine (TE.out w1 B1).mono ?_; rintro r w2 ⟨a2, b2, cc2, dd2, rfl, o2, hb2⟩
  obtain ⟨A2, n2, U2, k2, C2, i2, D2, j2, rfl, rfl, rfl, rfl⟩ := o2.shape
  clear c0 c1 c2 c3
  have z2 : w1.heap.size ≤ w2.heap.size := hb2.size
  have R2 := R1.below hb2 (by omega)
  have B2 : Below w.heap.size w w2 := B1.trans (hb2.mono (by omega))
  clear R1 B1
  go_wp2_with (fail)
  refine (FS.out w2 _ _ _ _ _ o2).mono ?_; rintro r w3 ⟨J3, jx3, L3, ly3, KK3, rfl, WD3, WC3, hk3, hs3, hb3⟩
  have z3 : w2.heap.size ≤ w3.heap.size := hb3.size
  have R3 := R2.below hb3 (by omega)
  have B3 : Below w.heap.size w w3 := B2.trans (hb3.mono (by omega))
  clear R2 B2
  clear o2 FS
  have hb4 : Below w3.heap.size w3 ((w3.alloc (.cells #[.int .i64 d.cyl, .int .i64 d.heads, .int .i64 d.per, .int .i64 d.size, .slice J3 d.secs.length jx3] 43)).alloc (.cells #[.slice L3 l.length ly3] 47)) := (by repeat (first | exact Below.refl _ _ | refine Below.alloc ?_ (by first | omega | (simp; done) | (simp; omega)) _ | apply Below.drew | apply below_drewN | refine Below.setCell ?_ (by first | omega | (simp; done) | (simp; omega)) _ | refine Below.trans ?_ (Below.mono (by assumption) (by first | omega | (simp; done) | (simp; omega)))))
  have z4 : w3.heap.size + 2 = (((w3.alloc (.cells #[.int .i64 d.cyl, .int .i64 d.heads, .int .i64 d.per, .int .i64 d.size, .slice J3 d.secs.length jx3] 43)).alloc (.cells #[.slice L3 l.length ly3] 47))).heap.size := by simp
  have R4 := R3.below hb4 (by omega)
  have B4 : Below w.heap.size w ((w3.alloc (.cells #[.int .i64 d.cyl, .int .i64 d.heads, .int .i64 d.per, .int .i64 d.size, .slice J3 d.secs.length jx3] 43)).alloc (.cells #[.slice L3 l.length ly3] 47)) := B3.trans (hb4.mono (by omega))
  have WD4 := Rep.keep (R := RSectorS) WD3 hb4
  have WC4 := Rep.keep (R := RSourceS) WC3 hb4
  clear R3 B3 WD3 WC3
  have P4 : Row ((w3.alloc (.cells #[.int .i64 d.cyl, .int .i64 d.heads, .int .i64 d.per, .int .i64 d.size, .slice J3 d.secs.length jx3] 43)).alloc (.cells #[.slice L3 l.length ly3] 47)) w3.heap.size [.int .i64 d.cyl, .int .i64 d.heads, .int .i64 d.per, .int .i64 d.size, .slice J3 d.secs.length jx3] := (Row.alloc w3 #[.int .i64 d.cyl, .int .i64 d.heads, .int .i64 d.per, .int .i64 d.size, .slice J3 d.secs.length jx3] 43).below (Below.alloc (Below.refl _ _) (Nat.le_refl _) _) (by simp)
  have Q4 : Row ((w3.alloc (.cells #[.int .i64 d.cyl, .int .i64 d.heads, .int .i64 d.per, .int .i64 d.size, .slice J3 d.secs.length jx3] 43)).alloc (.cells #[.slice L3 l.length ly3] 47)) (w3.heap.size + 1) [.slice L3 l.length ly3] := by have := Row.alloc (w3.alloc (.cells #[.int .i64 d.cyl, .int .i64 d.heads, .int .i64 d.per, .int .i64 d.size, .slice J3 d.secs.length jx3] 43)) #[.slice L3 l.length ly3] 47; simpa using this
  obtain ⟨c0, c1, c2, c3⟩ := R4.four
  go_wp2_with (fail)
  generalize ((w3.alloc (.cells #[.int .i64 d.cyl, .int .i64 d.heads, .int .i64 d.per, .int .i64 d.size, .slice J3 d.secs.length jx3] 43)).alloc (.cells #[.slice L3 l.length ly3] 47)) = w4 at *
  refine (TT.out w4 B4).mono ?_; rintro r w5 ⟨a5, b5, cc5, dd5, rfl, o5, hb5⟩
  obtain ⟨A5, n5, U5, k5, C5, i5, D5, j5, rfl, rfl, rfl, rfl⟩ := o5.own.shape
  clear c0 c1 c2 c3
  have z5 : w4.heap.size ≤ w5.heap.size := hb5.size
  have R5 := R4.below hb5 (by omega)
  have B5 : Below w.heap.size w w5 := B4.trans (hb5.mono (by omega))
  have WD5 := Rep.keep (R := RSectorS) WD4 hb5
  have WC5 := Rep.keep (R := RSourceS) WC4 hb5
  have P5 := P4.below hb5 (by omega)
  have Q5 := Q4.below hb5 (by omega)
  clear R4 B4 WD4 WC4 P4 Q4
  have T5 := o5
  clear o5
  have hb6 : Below w5.heap.size w5 (w5.alloc (.cells #[.slice A5 e.ds.length n5, .slice U5 e.cr.length k5, .slice C5 e.p.length i5, .slice D5 e.q.length j5] 39)) := (by repeat (first | exact Below.refl _ _ | refine Below.alloc ?_ (by first | omega | (simp; done) | (simp; omega)) _ | apply Below.drew | apply below_drewN | refine Below.setCell ?_ (by first | omega | (simp; done) | (simp; omega)) _ | refine Below.trans ?_ (Below.mono (by assumption) (by first | omega | (simp; done) | (simp; omega)))))
  have z6 : w5.heap.size + 1 = ((w5.alloc (.cells #[.slice A5 e.ds.length n5, .slice U5 e.cr.length k5, .slice C5 e.p.length i5, .slice D5 e.q.length j5] 39))).heap.size := by simp
  have R6 := R5.below hb6 (by omega)
  have B6 : Below w.heap.size w (w5.alloc (.cells #[.slice A5 e.ds.length n5, .slice U5 e.cr.length k5, .slice C5 e.p.length i5, .slice D5 e.q.length j5] 39)) := B5.trans (hb6.mono (by omega))
  have WD6 := Rep.keep (R := RSectorS) WD5 hb6
  have WC6 := Rep.keep (R := RSourceS) WC5 hb6
  have P6 := P5.below hb6 (by omega)
  have Q6 := Q5.below hb6 (by omega)
  have T6 := T5.below hb6
  clear R5 B5 WD5 WC5 P5 Q5 T5
  have X6 : Row (w5.alloc (.cells #[.slice A5 e.ds.length n5, .slice U5 e.cr.length k5, .slice C5 e.p.length i5, .slice D5 e.q.length j5] 39)) w5.heap.size [.slice A5 e.ds.length n5, .slice U5 e.cr.length k5, .slice C5 e.p.length i5, .slice D5 e.q.length j5] := Row.alloc w5 _ _
  obtain ⟨c0, c1, c2, c3⟩ := X6.four
  go_wp2_with (fail)
  generalize (w5.alloc (.cells #[.slice A5 e.ds.length n5, .slice U5 e.cr.length k5, .slice C5 e.p.length i5, .slice D5 e.q.length j5] 39)) = w6 at *
  refine (FI.out w6 _ _ _ _ _ T6.own).mono ?_; rintro r w7 ⟨J7, jx7, L7, ly7, KK7, rfl, GD7, GC7, hk7, hs7, hb7⟩
  have z7 : w6.heap.size ≤ w7.heap.size := hb7.size
  have R7 := R6.below hb7 (by omega)
  have B7 : Below w.heap.size w w7 := B6.trans (hb7.mono (by omega))
  have WD7 := Rep.keep (R := RSectorS) WD6 hb7
  have WC7 := Rep.keep (R := RSourceS) WC6 hb7
  have P7 := P6.below hb7 (by omega)
  have Q7 := Q6.below hb7 (by omega)
  have T7 := T6.below hb7
  have X7 := X6.below hb7 (by omega)
  clear R6 B6 WD6 WC6 P6 Q6 T6 X6
  clear c0 c1 c2 c3
  have hb8 : Below w7.heap.size w7 ((w7.alloc (.cells #[.int .i64 d.cyl, .int .i64 d.heads, .int .i64 d.per, .int .i64 d.size, .slice J7 d.secs.length jx7] 43)).alloc (.cells #[.slice L7 l.length ly7] 47)) := (by repeat (first | exact Below.refl _ _ | refine Below.alloc ?_ (by first | omega | (simp; done) | (simp; omega)) _ | apply Below.drew | apply below_drewN | refine Below.setCell ?_ (by first | omega | (simp; done) | (simp; omega)) _ | refine Below.trans ?_ (Below.mono (by assumption) (by first | omega | (simp; done) | (simp; omega)))))
  have z8 : w7.heap.size + 2 = (((w7.alloc (.cells #[.int .i64 d.cyl, .int .i64 d.heads, .int .i64 d.per, .int .i64 d.size, .slice J7 d.secs.length jx7] 43)).alloc (.cells #[.slice L7 l.length ly7] 47))).heap.size := by simp
  have R8 := R7.below hb8 (by omega)
  have B8 : Below w.heap.size w ((w7.alloc (.cells #[.int .i64 d.cyl, .int .i64 d.heads, .int .i64 d.per, .int .i64 d.size, .slice J7 d.secs.length jx7] 43)).alloc (.cells #[.slice L7 l.length ly7] 47)) := B7.trans (hb8.mono (by omega))
  have WD8 := Rep.keep (R := RSectorS) WD7 hb8
  have WC8 := Rep.keep (R := RSourceS) WC7 hb8
  have P8 := P7.below hb8 (by omega)
  have Q8 := Q7.below hb8 (by omega)
  have T8 := T7.below hb8
  have X8 := X7.below hb8 (by omega)
  have GD8 := Rep.keep (R := RSectorS) GD7 hb8
  have GC8 := Rep.keep (R := RSourceS) GC7 hb8
  clear R7 B7 WD7 WC7 P7 Q7 T7 X7 GD7 GC7
  have S8 : Row ((w7.alloc (.cells #[.int .i64 d.cyl, .int .i64 d.heads, .int .i64 d.per, .int .i64 d.size, .slice J7 d.secs.length jx7] 43)).alloc (.cells #[.slice L7 l.length ly7] 47)) w7.heap.size [.int .i64 d.cyl, .int .i64 d.heads, .int .i64 d.per, .int .i64 d.size, .slice J7 d.secs.length jx7] := (Row.alloc w7 #[.int .i64 d.cyl, .int .i64 d.heads, .int .i64 d.per, .int .i64 d.size, .slice J7 d.secs.length jx7] 43).below (Below.alloc (Below.refl _ _) (Nat.le_refl _) _) (by simp)
  have V8 : Row ((w7.alloc (.cells #[.int .i64 d.cyl, .int .i64 d.heads, .int .i64 d.per, .int .i64 d.size, .slice J7 d.secs.length jx7] 43)).alloc (.cells #[.slice L7 l.length ly7] 47)) (w7.heap.size + 1) [.slice L7 l.length ly7] := by have := Row.alloc (w7.alloc (.cells #[.int .i64 d.cyl, .int .i64 d.heads, .int .i64 d.per, .int .i64 d.size, .slice J7 d.secs.length jx7] 43)) #[.slice L7 l.length ly7] 47; simpa using this
  obtain ⟨s0, s1, s2, s3, s4⟩ := S8.five
  obtain ⟨p0, p1, p2, p3, p4⟩ := P8.five
  go_wp2_with (fail)
  generalize ((w7.alloc (.cells #[.int .i64 d.cyl, .int .i64 d.heads, .int .i64 d.per, .int .i64 d.size, .slice J7 d.secs.length jx7] 43)).alloc (.cells #[.slice L7 l.length ly7] 47)) = w8 at *
  refine (eqDsc d _ _ _ _ w8 GD8.1 WD8.1 (by omega)).mono ?_; rintro r w9 ⟨rfl, hb9⟩
  clear s0 s1 s2 s3 s4
  clear p0 p1 p2 p3 p4
  have z9 : w8.heap.size ≤ w9.heap.size := hb9.size
  have R9 := R8.below hb9 (by omega)
  have B9 : Below w.heap.size w w9 := B8.trans (hb9.mono (by omega))
  have WD9 := Rep.keep (R := RSectorS) WD8 hb9
  have WC9 := Rep.keep (R := RSourceS) WC8 hb9
  have P9 := P8.below hb9 (by omega)
  have Q9 := Q8.below hb9 (by omega)
  have T9 := T8.below hb9
  have X9 := X8.below hb9 (by omega)
  have GD9 := Rep.keep (R := RSectorS) GD8 hb9
  have GC9 := Rep.keep (R := RSourceS) GC8 hb9
  have S9 := S8.below hb9 (by omega)
  have V9 := V8.below hb9 (by omega)
  clear R8 B8 WD8 WC8 P8 Q8 T8 X8 GD8 GC8 S8 V8
  have v0 := V9 0 _ rfl
  have q0 := Q9 0 _ rfl
  go_wp2_with (fail)
  refine (eqCert l _ _ _ _ _ _ w9 GC9 WC9 cntl).mono ?_; rintro r w10 ⟨rfl, hb10⟩
  clear v0 q0
  have z10 : w9.heap.size ≤ w10.heap.size := hb10.size
  have R10 := R9.below hb10 (by omega)
  have B10 : Below w.heap.size w w10 := B9.trans (hb10.mono (by omega))
  have WD10 := Rep.keep (R := RSectorS) WD9 hb10
  have WC10 := Rep.keep (R := RSourceS) WC9 hb10
  have P10 := P9.below hb10 (by omega)
  have Q10 := Q9.below hb10 (by omega)
  have T10 := T9.below hb10
  have X10 := X9.below hb10 (by omega)
  have GD10 := Rep.keep (R := RSectorS) GD9 hb10
  have GC10 := Rep.keep (R := RSourceS) GC9 hb10
  have S10 := S9.below hb10 (by omega)
  have V10 := V9.below hb10 (by omega)
  clear R9 B9 WD9 WC9 P9 Q9 T9 X9 GD9 GC9 S9 V9
  have Rd := R10.below (Below.refl w10.heap.size w10).drew (by omega)
  have Xd := X10.below (Below.refl w10.heap.size w10).drew (by omega)
  have Bd := B10.drew
  have Td := T10.below (Below.refl w10.heap.size w10).drew
  have HK : Hid (∀ w', Below w10.heap.size w10 w' → Four (.slice A5 e.ds.length n5) (.slice U5 e.cr.length k5) (.slice C5 e.p.length i5) (.slice D5 e.q.length j5) w5.heap.size w' ∧ Four (.slice A e.ds.length n) (.slice B' e.cr.length k') (.slice C e.p.length i) (.slice D e.q.length j) w.heap.size w') := Lib.hid fun w' hb => ⟨(X10.below hb (by omega)).four, (R10.below hb (by omega)).four⟩
  go_wp2_with (fail)
  go_region_held3 (fun w' => Four (.slice A5 e.ds.length n5) (.slice U5 e.cr.length k5) (.slice C5 e.p.length i5) (.slice D5 e.q.length j5) w5.heap.size w' ∧ Four (.slice A e.ds.length n) (.slice B' e.cr.length k') (.slice C e.p.length i) (.slice D e.q.length j) w.heap.size w')
    (first | exact HK.out _ hbc12 | exact HK.out _ hbc11 | exact HK.out _ (Below.refl w10.heap.size w10).drew)
    (first
      | (go_at_call 16; refine (QE.out w11 _ _ _ _ _ _ _ _ _ _ (Td.below hbq11).own o11).mono ?_; rintro r w12 ⟨rfl, hb12⟩; have hbc12 := hbc11.trans (hb12.mono hbc11.size))
      | (go_at_call 12; refine (TE.out _ Bd).mono ?_; rintro r w11 ⟨a11, b11, cc11, dd11, rfl, o11, hbq11⟩; obtain ⟨A11, n11, U11, k11, C11, i11, D11, j11, rfl, rfl, rfl, rfl⟩ := o11.shape; have hbc11 := ((Below.refl w10.heap.size w10).drew).trans hbq11))
  clear Rd Xd Bd Td HK hbq11 o11 hbc12
  have z11 : w10.heap.size ≤ w11.heap.size := hbc11.size
  have R11 := R10.below hbc11 (by omega)
  have B11 : Below w.heap.size w w11 := B10.trans (hbc11.mono (by omega))
  have WD11 := Rep.keep (R := RSectorS) WD10 hbc11
  have WC11 := Rep.keep (R := RSourceS) WC10 hbc11
  have P11 := P10.below hbc11 (by omega)
  have Q11 := Q10.below hbc11 (by omega)
  have T11 := T10.below hbc11
  have X11 := X10.below hbc11 (by omega)
  have GD11 := Rep.keep (R := RSectorS) GD10 hbc11
  have GC11 := Rep.keep (R := RSourceS) GC10 hbc11
  have S11 := S10.below hbc11 (by omega)
  have V11 := V10.below hbc11 (by omega)
  clear R10 B10 WD10 WC10 P10 Q10 T10 X10 GD10 GC10 S10 V10
  have z12 : w11.heap.size ≤ w12.heap.size := hb12.size
  have R12 := R11.below hb12 (by omega)
  have B12 : Below w.heap.size w w12 := B11.trans (hb12.mono (by omega))
  have WD12 := Rep.keep (R := RSectorS) WD11 hb12
  have WC12 := Rep.keep (R := RSourceS) WC11 hb12
  have P12 := P11.below hb12 (by omega)
  have Q12 := Q11.below hb12 (by omega)
  have T12 := T11.below hb12
  have X12 := X11.below hb12 (by omega)
  have GD12 := Rep.keep (R := RSectorS) GD11 hb12
  have GC12 := Rep.keep (R := RSourceS) GC11 hb12
  have S12 := S11.below hb12 (by omega)
  have V12 := V11.below hb12 (by omega)
  clear R11 B11 WD11 WC11 P11 Q11 T11 X11 GD11 GC11 S11 V11
  obtain ⟨c0, c1, c2, c3⟩ := X12.four
  go_wp2_with (fail)
  refine (ME.out w12 _ _ _ _ _ _ T12 (by omega)).mono ?_; rintro r w13 ⟨rfl, hc13⟩
  clear c0 c1 c2 c3
  have z13 : w12.heap.size ≤ w13.heap.size := hc13.size
  have R13 := R12.chg hc13 (by omega) (by omega)
  have B13 : Below w.heap.size w w13 := Chg.below B12 hc13 (by omega) (Nat.le_refl _)
  have WD13 := RSectorS.chg WD12 hc13 (by omega)
  have WC13 := RSourceS.chg WC12 hc13 (by omega)
  have P13 := P12.chg hc13 (by omega) (by omega)
  have Q13 := Q12.chg hc13 (by omega) (by omega)
  have GD13 := RSectorS.chg GD12 hc13 (by omega)
  have GC13 := RSourceS.chg GC12 hc13 (by omega)
  have S13 := S12.chg hc13 (by omega) (by omega)
  have V13 := V12.chg hc13 (by omega) (by omega)
  clear R12 B12 WD12 WC12 P12 Q12 T12 X12 GD12 GC12 S12 V12
  have dk : decide (((1 + cE : Nat) : Int) < 0) = false := by simp; omega
  obtain ⟨s0, s1, s2, s3, s4⟩ := S13.five
  obtain ⟨p0, p1, p2, p3, p4⟩ := P13.five
  go_wp2_with (fail)
  refine (eqDsc d _ _ _ _ w13 GD13.1 WD13.1 (by omega)).mono ?_; rintro r w14 ⟨rfl, hb14⟩
  clear s0 s1 s2 s3 s4
  clear p0 p1 p2 p3 p4
  have z14 : w13.heap.size ≤ w14.heap.size := hb14.size
  have R14 := R13.below hb14 (by omega)
  have B14 : Below w.heap.size w w14 := B13.trans (hb14.mono (by omega))
  have WD14 := Rep.keep (R := RSectorS) WD13 hb14
  have WC14 := Rep.keep (R := RSourceS) WC13 hb14
  have P14 := P13.below hb14 (by omega)
  have Q14 := Q13.below hb14 (by omega)
  have GD14 := Rep.keep (R := RSectorS) GD13 hb14
  have GC14 := Rep.keep (R := RSourceS) GC13 hb14
  have S14 := S13.below hb14 (by omega)
  have V14 := V13.below hb14 (by omega)
  clear R13 B13 WD13 WC13 P13 Q13 GD13 GC13 S13 V13
  have v0 := V14 0 _ rfl
  have q0 := Q14 0 _ rfl
  go_wp2_with (fail)
  refine (eqCert l _ _ _ _ _ _ w14 GC14 WC14 cntl).mono ?_; rintro r w15 ⟨rfl, hb15⟩
  clear v0 q0
  have z15 : w14.heap.size ≤ w15.heap.size := hb15.size
  have R15 := R14.below hb15 (by omega)
  have B15 : Below w.heap.size w w15 := B14.trans (hb15.mono (by omega))
  have WD15 := Rep.keep (R := RSectorS) WD14 hb15
  have WC15 := Rep.keep (R := RSourceS) WC14 hb15
  have P15 := P14.below hb15 (by omega)
  have Q15 := Q14.below hb15 (by omega)
  have GD15 := Rep.keep (R := RSectorS) GD14 hb15
  have GC15 := Rep.keep (R := RSourceS) GC14 hb15
  have S15 := S14.below hb15 (by omega)
  have V15 := V14.below hb15 (by omega)
  clear R14 B14 WD14 WC14 P14 Q14 GD14 GC14 S14 V14
  obtain ⟨s0, s1, s2, s3, s4⟩ := S15.five
  go_wp2_with (fail)
  refine (markDsc d _ 1 _ _ w15 GD15 (by omega) (by omega) (by omega)).mono ?_; rintro r w16 ⟨rfl, om16, hc16⟩
  clear s0 s1 s2 s3 s4
  have z16 : w15.heap.size ≤ w16.heap.size := hc16.size
  have R16 := R15.chg hc16 (by omega) (by omega)
  have B16 : Below w.heap.size w w16 := Chg.below B15 hc16 (by omega) (Nat.le_refl _)
  have WD16 := RSectorS.chg WD15 hc16 (by omega)
  have WC16 := RSourceS.chg WC15 hc16 (by omega)
  have P16 := P15.chg hc16 (by omega) (by omega)
  have Q16 := Q15.chg hc16 (by omega) (by omega)
  have GC16 := RSourceS.chg GC15 hc16 (by omega)
  have S16 := S15.chg hc16 (by omega) (by omega)
  have V16 := V15.chg hc16 (by omega) (by omega)
  clear R15 B15 WD15 WC15 P15 Q15 GD15 GC15 S15 V15
  have GD16 := om16
  clear om16
  have v0 := V16 0 _ rfl
  go_wp2_with (fail)
  refine (markCert l _ (1 + d.secs.length * 2) _ _ w16 GC16 (by omega) cntl (by omega) (by omega)).mono ?_; rintro r w17 ⟨rfl, om17, hc17⟩
  clear v0
  have z17 : w16.heap.size ≤ w17.heap.size := hc17.size
  have R17 := R16.chg hc17 (by omega) (by omega)
  have B17 : Below w.heap.size w w17 := Chg.below B16 hc17 (by omega) (Nat.le_refl _)
  have WD17 := RSectorS.chg WD16 hc17 (by omega)
  have WC17 := RSourceS.chg WC16 hc17 (by omega)
  have P17 := P16.chg hc17 (by omega) (by omega)
  have Q17 := Q16.chg hc17 (by omega) (by omega)
  have S17 := S16.chg hc17 (by omega) (by omega)
  have V17 := V16.chg hc17 (by omega) (by omega)
  have GD17 := RSectorS.chg GD16 hc17 (by omega)
  clear R16 B16 WD16 WC16 P16 Q16 GC16 S16 V16 GD16
  have GC17 := om17
  clear om17
  have dk2 : decide (((1 + d.secs.length * 2 : Nat) : Int) < 0) = false := by simp; omega
  have dk3 : decide (((1 + d.secs.length * 2 + RSourceS.cnt l : Nat) : Int) < 0) = false := by simp; omega
  obtain ⟨s0, s1, s2, s3, s4⟩ := S17.five
  go_wp2_with (fail)
  refine (heldDsc d _ 1 _ _ w17 GD17 nd (by omega) (by omega) ⟨_, _, rfl⟩).mono ?_; rintro r w18 ⟨rfl, hb18⟩
  clear s0 s1 s2 s3 s4
  have z18 : w17.heap.size ≤ w18.heap.size := hb18.size
  have R18 := R17.below hb18 (by omega)
  have B18 : Below w.heap.size w w18 := B17.trans (hb18.mono (by omega))
  have WD18 := Rep.keep (R := RSectorS) WD17 hb18
  have WC18 := Rep.keep (R := RSourceS) WC17 hb18
  have P18 := P17.below hb18 (by omega)
  have Q18 := Q17.below hb18 (by omega)
  have S18 := S17.below hb18 (by omega)
  have V18 := V17.below hb18 (by omega)
  have GD18 := Rep.keep (R := RSectorS) GD17 hb18
  have GC18 := Rep.keep (R := RSourceS) GC17 hb18
  clear R17 B17 WD17 WC17 P17 Q17 S17 V17 GD17 GC17
  have v0 := V18 0 _ rfl
  go_wp2_with (fail)
  refine (heldCert l _ (1 + d.secs.length * 2) _ _ w18 GC18 cntl (by omega) (by omega)).mono ?_; rintro r w19 ⟨rfl, hb19⟩
  clear v0
  have z19 : w18.heap.size ≤ w19.heap.size := hb19.size
  have R19 := R18.below hb19 (by omega)
  have B19 : Below w.heap.size w w19 := B18.trans (hb19.mono (by omega))
  have WD19 := Rep.keep (R := RSectorS) WD18 hb19
  have WC19 := Rep.keep (R := RSourceS) WC18 hb19
  have P19 := P18.below hb19 (by omega)
  have Q19 := Q18.below hb19 (by omega)
  have S19 := S18.below hb19 (by omega)
  have V19 := V18.below hb19 (by omega)
  have GD19 := Rep.keep (R := RSectorS) GD18 hb19
  have GC19 := Rep.keep (R := RSourceS) GC18 hb19
  clear R18 B18 WD18 WC18 P18 Q18 S18 V18 GD18 GC18
  obtain ⟨c0, c1, c2, c3⟩ := R19.four
  go_wp2_with (fail)
  refine (TE.out w19 B19).mono ?_; rintro r w20 ⟨a20, b20, cc20, dd20, rfl, o20, hb20⟩
  obtain ⟨A20, n20, U20, k20, C20, i20, D20, j20, rfl, rfl, rfl, rfl⟩ := o20.shape
  clear c0 c1 c2 c3
  have z20 : w19.heap.size ≤ w20.heap.size := hb20.size
  have R20 := R19.below hb20 (by omega)
  have B20 : Below w.heap.size w w20 := B19.trans (hb20.mono (by omega))
  have WD20 := Rep.keep (R := RSectorS) WD19 hb20
  have WC20 := Rep.keep (R := RSourceS) WC19 hb20
  have P20 := P19.below hb20 (by omega)
  have Q20 := Q19.below hb20 (by omega)
  have S20 := S19.below hb20 (by omega)
  have V20 := V19.below hb20 (by omega)
  have GD20 := Rep.keep (R := RSectorS) GD19 hb20
  have GC20 := Rep.keep (R := RSourceS) GC19 hb20
  clear R19 B19 WD19 WC19 P19 Q19 S19 V19 GD19 GC19
  go_wp2_with (fail)
  refine (FI.out w20 _ _ _ _ _ o20).mono ?_; rintro r w21 ⟨J21, jx21, L21, ly21, KK21, rfl, HD21, HC21, hk21, hs21, hb21⟩
  have z21 : w20.heap.size ≤ w21.heap.size := hb21.size
  have R21 := R20.below hb21 (by omega)
  have B21 : Below w.heap.size w w21 := B20.trans (hb21.mono (by omega))
  have WD21 := Rep.keep (R := RSectorS) WD20 hb21
  have WC21 := Rep.keep (R := RSourceS) WC20 hb21
  have P21 := P20.below hb21 (by omega)
  have Q21 := Q20.below hb21 (by omega)
  have S21 := S20.below hb21 (by omega)
  have V21 := V20.below hb21 (by omega)
  have GD21 := Rep.keep (R := RSectorS) GD20 hb21
  have GC21 := Rep.keep (R := RSourceS) GC20 hb21
  clear R20 B20 WD20 WC20 P20 Q20 S20 V20 GD20 GC20
  have hb22 : Below w21.heap.size w21 ((w21.alloc (.cells #[.int .i64 d.cyl, .int .i64 d.heads, .int .i64 d.per, .int .i64 d.size, .slice J21 d.secs.length jx21] 43)).alloc (.cells #[.slice L21 l.length ly21] 47)) := (by repeat (first | exact Below.refl _ _ | refine Below.alloc ?_ (by first | omega | (simp; done) | (simp; omega)) _ | apply Below.drew | apply below_drewN | refine Below.setCell ?_ (by first | omega | (simp; done) | (simp; omega)) _ | refine Below.trans ?_ (Below.mono (by assumption) (by first | omega | (simp; done) | (simp; omega)))))
  have z22 : w21.heap.size + 2 = (((w21.alloc (.cells #[.int .i64 d.cyl, .int .i64 d.heads, .int .i64 d.per, .int .i64 d.size, .slice J21 d.secs.length jx21] 43)).alloc (.cells #[.slice L21 l.length ly21] 47))).heap.size := by simp
  have R22 := R21.below hb22 (by omega)
  have B22 : Below w.heap.size w ((w21.alloc (.cells #[.int .i64 d.cyl, .int .i64 d.heads, .int .i64 d.per, .int .i64 d.size, .slice J21 d.secs.length jx21] 43)).alloc (.cells #[.slice L21 l.length ly21] 47)) := B21.trans (hb22.mono (by omega))
  have WD22 := Rep.keep (R := RSectorS) WD21 hb22
  have WC22 := Rep.keep (R := RSourceS) WC21 hb22
  have P22 := P21.below hb22 (by omega)
  have Q22 := Q21.below hb22 (by omega)
  have S22 := S21.below hb22 (by omega)
  have V22 := V21.below hb22 (by omega)
  have GD22 := Rep.keep (R := RSectorS) GD21 hb22
  have GC22 := Rep.keep (R := RSourceS) GC21 hb22
  have HD22 := Rep.keep (R := RSectorS) HD21 hb22
  have HC22 := Rep.keep (R := RSourceS) HC21 hb22
  clear R21 B21 WD21 WC21 P21 Q21 S21 V21 GD21 GC21 HD21 HC21
  have M22 : Row ((w21.alloc (.cells #[.int .i64 d.cyl, .int .i64 d.heads, .int .i64 d.per, .int .i64 d.size, .slice J21 d.secs.length jx21] 43)).alloc (.cells #[.slice L21 l.length ly21] 47)) w21.heap.size [.int .i64 d.cyl, .int .i64 d.heads, .int .i64 d.per, .int .i64 d.size, .slice J21 d.secs.length jx21] := (Row.alloc w21 #[.int .i64 d.cyl, .int .i64 d.heads, .int .i64 d.per, .int .i64 d.size, .slice J21 d.secs.length jx21] 43).below (Below.alloc (Below.refl _ _) (Nat.le_refl _) _) (by simp)
  have N22 : Row ((w21.alloc (.cells #[.int .i64 d.cyl, .int .i64 d.heads, .int .i64 d.per, .int .i64 d.size, .slice J21 d.secs.length jx21] 43)).alloc (.cells #[.slice L21 l.length ly21] 47)) (w21.heap.size + 1) [.slice L21 l.length ly21] := by have := Row.alloc (w21.alloc (.cells #[.int .i64 d.cyl, .int .i64 d.heads, .int .i64 d.per, .int .i64 d.size, .slice J21 d.secs.length jx21] 43)) #[.slice L21 l.length ly21] 47; simpa using this
  obtain ⟨s0, s1, s2, s3, s4⟩ := M22.five
  obtain ⟨p0, p1, p2, p3, p4⟩ := P22.five
  go_wp2_with (fail)
  generalize ((w21.alloc (.cells #[.int .i64 d.cyl, .int .i64 d.heads, .int .i64 d.per, .int .i64 d.size, .slice J21 d.secs.length jx21] 43)).alloc (.cells #[.slice L21 l.length ly21] 47)) = w22 at *
  refine (eqDsc d _ _ _ _ w22 HD22.1 WD22.1 (by omega)).mono ?_; rintro r w23 ⟨rfl, hb23⟩
  clear s0 s1 s2 s3 s4
  clear p0 p1 p2 p3 p4
  have z23 : w22.heap.size ≤ w23.heap.size := hb23.size
  have R23 := R22.below hb23 (by omega)
  have B23 : Below w.heap.size w w23 := B22.trans (hb23.mono (by omega))
  have WD23 := Rep.keep (R := RSectorS) WD22 hb23
  have WC23 := Rep.keep (R := RSourceS) WC22 hb23
  have P23 := P22.below hb23 (by omega)
  have Q23 := Q22.below hb23 (by omega)
  have S23 := S22.below hb23 (by omega)
  have V23 := V22.below hb23 (by omega)
  have GD23 := Rep.keep (R := RSectorS) GD22 hb23
  have GC23 := Rep.keep (R := RSourceS) GC22 hb23
  have HD23 := Rep.keep (R := RSectorS) HD22 hb23
  have HC23 := Rep.keep (R := RSourceS) HC22 hb23
  have M23 := M22.below hb23 (by omega)
  have N23 := N22.below hb23 (by omega)
  clear R22 B22 WD22 WC22 P22 Q22 S22 V22 GD22 GC22 HD22 HC22 M22 N22
  have v0 := N23 0 _ rfl
  have q0 := Q23 0 _ rfl
  go_wp2_with (fail)
  refine (eqCert l _ _ _ _ _ _ w23 HC23 WC23 cntl).mono ?_; rintro r w24 ⟨rfl, hb24⟩
  clear v0 q0
  have z24 : w23.heap.size ≤ w24.heap.size := hb24.size
  have R24 := R23.below hb24 (by omega)
  have B24 : Below w.heap.size w w24 := B23.trans (hb24.mono (by omega))
  have WD24 := Rep.keep (R := RSectorS) WD23 hb24
  have WC24 := Rep.keep (R := RSourceS) WC23 hb24
  have P24 := P23.below hb24 (by omega)
  have Q24 := Q23.below hb24 (by omega)
  have S24 := S23.below hb24 (by omega)
  have V24 := V23.below hb24 (by omega)
  have GD24 := Rep.keep (R := RSectorS) GD23 hb24
  have GC24 := Rep.keep (R := RSourceS) GC23 hb24
  have HD24 := Rep.keep (R := RSectorS) HD23 hb24
  have HC24 := Rep.keep (R := RSourceS) HC23 hb24
  have M24 := M23.below hb24 (by omega)
  have N24 := N23.below hb24 (by omega)
  clear R23 B23 WD23 WC23 P23 Q23 S23 V23 GD23 GC23 HD23 HC23 M23 N23
  obtain ⟨s0, s1, s2, s3, s4⟩ := S24.five
  go_wp2_with (fail)
  refine (heldDsc d _ 1 _ _ w24 GD24 nd (by omega) (by omega) ⟨_, _, rfl⟩).mono ?_; rintro r w25 ⟨rfl, hb25⟩
  clear s0 s1 s2 s3 s4
  have z25 : w24.heap.size ≤ w25.heap.size := hb25.size
  have R25 := R24.below hb25 (by omega)
  have B25 : Below w.heap.size w w25 := B24.trans (hb25.mono (by omega))
  have WD25 := Rep.keep (R := RSectorS) WD24 hb25
  have WC25 := Rep.keep (R := RSourceS) WC24 hb25
  have P25 := P24.below hb25 (by omega)
  have Q25 := Q24.below hb25 (by omega)
  have S25 := S24.below hb25 (by omega)
  have V25 := V24.below hb25 (by omega)
  have GD25 := Rep.keep (R := RSectorS) GD24 hb25
  have GC25 := Rep.keep (R := RSourceS) GC24 hb25
  have HD25 := Rep.keep (R := RSectorS) HD24 hb25
  have HC25 := Rep.keep (R := RSourceS) HC24 hb25
  have M25 := M24.below hb25 (by omega)
  have N25 := N24.below hb25 (by omega)
  clear R24 B24 WD24 WC24 P24 Q24 S24 V24 GD24 GC24 HD24 HC24 M24 N24
  have v0 := V25 0 _ rfl
  go_wp2_with (fail)
  refine (heldCert l _ (1 + d.secs.length * 2) _ _ w25 GC25 cntl (by omega) (by omega)).mono ?_; rintro r w26 ⟨rfl, hb26⟩
  clear v0
  have z26 : w25.heap.size ≤ w26.heap.size := hb26.size
  have R26 := R25.below hb26 (by omega)
  have B26 : Below w.heap.size w w26 := B25.trans (hb26.mono (by omega))
  have WD26 := Rep.keep (R := RSectorS) WD25 hb26
  have WC26 := Rep.keep (R := RSourceS) WC25 hb26
  have P26 := P25.below hb26 (by omega)
  have Q26 := Q25.below hb26 (by omega)
  have S26 := S25.below hb26 (by omega)
  have V26 := V25.below hb26 (by omega)
  have GD26 := Rep.keep (R := RSectorS) GD25 hb26
  have GC26 := Rep.keep (R := RSourceS) GC25 hb26
  have HD26 := Rep.keep (R := RSectorS) HD25 hb26
  have HC26 := Rep.keep (R := RSourceS) HC25 hb26
  have M26 := M25.below hb26 (by omega)
  have N26 := N25.below hb26 (by omega)
  clear R25 B25 WD25 WC25 P25 Q25 S25 V25 GD25 GC25 HD25 HC25 M25 N25
  go_wp2
  go_ret
  exact ⟨rfl, B26⟩
end Go.Proofs.YtfcdienphillnaaGreat
