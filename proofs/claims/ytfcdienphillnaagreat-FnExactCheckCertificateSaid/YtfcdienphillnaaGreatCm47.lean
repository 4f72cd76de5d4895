/- The walk of FnExactCheckCertificate. Printed by gen_ck.py. Opening the arguments of a law: from the form's reading to plain facts. Opening a slice of laws.Sector that came in. Printed by gen_flat.py. -/
import Derived.Test.YtfcdienphillnaaGreatCm46
import Derived.Test.YtfcdienphillnaaGreatCk01
import Derived.Test.YtfcdienphillnaaGreatCk04
import Derived.Deep.RegionHeld3
import Derived.ProofKit
import Derived.OpenShut
import Derived.ShutString
import Derived.ChangeOld
import Derived.Below
import Derived.Lib.SmallJoins
import Derived.Deep.Slices
namespace Go.Proofs.YtfcdienphillnaaGreat
set_option linter.unusedVariables false
set_option linter.unusedSimpArgs false
open Go.RowKit
set_option maxRecDepth 20000 in
set_option maxHeartbeats 8000000 in
theorem walkFnExactCheckCertificate (e : Evd) (d : Dsc) (l : List Src) (w : World) {va vb vc vd vx vy : Value} (h : EvIn w e va vb vc vd) (hd : SecIn w vx d.secs) (hl : RSourceS.raw w vy l) :
    Calls Tryz.prog 4 #[evV va vb vc vd, dscV d vx, .agg #[vy]] w fun r w' => r = .returned (.bool true) ∧ Below w.heap.size w w' := by
  have H1 := Lib.hid h
  have H2 := Lib.hid hd
  have H3 := Lib.hid hl
  have md := Lib.hid hd.2
  obtain ⟨A, n, hv, _, _⟩ := h.ds
  obtain ⟨B', k', hv1, _, _⟩ := h.cr
  obtain ⟨⟨C, i, hv2, _, _⟩, _⟩ := h.p
  obtain ⟨⟨D, j, hv3, _, _⟩, _⟩ := h.q
  subst hv hv1 hv2 hv3
  obtain ⟨⟨X, c, e1, _, _⟩, _⟩ := hd
  obtain ⟨⟨Y, c2, e2, _⟩, _⟩ := hl
  subst e1 e2
  clear h
  obtain ⟨RE, RD, RC, B0, z0⟩ := boxes3 w #[.slice A e.ds.length n, .slice B' e.cr.length k', .slice C e.p.length i, .slice D e.q.length j] #[.int .i64 d.cyl, .int .i64 d.heads, .int .i64 d.per, .int .i64 d.size, .slice X d.secs.length c] #[.slice Y l.length c2] 26 29 32
  have HRK : Hid (∀ w', Below ((((w.alloc (.cells #[.slice A e.ds.length n, .slice B' e.cr.length k', .slice C e.p.length i, .slice D e.q.length j] 26)).alloc (.cells #[.int .i64 d.cyl, .int .i64 d.heads, .int .i64 d.per, .int .i64 d.size, .slice X d.secs.length c] 29)).alloc (.cells #[.slice Y l.length c2] 32))).heap.size (((w.alloc (.cells #[.slice A e.ds.length n, .slice B' e.cr.length k', .slice C e.p.length i, .slice D e.q.length j] 26)).alloc (.cells #[.int .i64 d.cyl, .int .i64 d.heads, .int .i64 d.per, .int .i64 d.size, .slice X d.secs.length c] 29)).alloc (.cells #[.slice Y l.length c2] 32)) w' → Four (.slice A e.ds.length n) (.slice B' e.cr.length k') (.slice C e.p.length i) (.slice D e.q.length j) w.heap.size w' ∧ Five d (.slice X d.secs.length c) (w.heap.size + 1) w' ∧ w'.cell? ⟨w.heap.size + 1 + 1, 0, none⟩ = some (.slice Y l.length c2)) := Lib.hid fun w' hb => ⟨(RE.below hb (by rw [z0]; omega)).four, (RD.below hb (by rw [z0]; omega)).five, (RC.below hb (by rw [z0]; omega)) 0 _ rfl⟩
  have HBW : Hid (∀ w', Below ((((w.alloc (.cells #[.slice A e.ds.length n, .slice B' e.cr.length k', .slice C e.p.length i, .slice D e.q.length j] 26)).alloc (.cells #[.int .i64 d.cyl, .int .i64 d.heads, .int .i64 d.per, .int .i64 d.size, .slice X d.secs.length c] 29)).alloc (.cells #[.slice Y l.length c2] 32))).heap.size (((w.alloc (.cells #[.slice A e.ds.length n, .slice B' e.cr.length k', .slice C e.p.length i, .slice D e.q.length j] 26)).alloc (.cells #[.int .i64 d.cyl, .int .i64 d.heads, .int .i64 d.per, .int .i64 d.size, .slice X d.secs.length c] 29)).alloc (.cells #[.slice Y l.length c2] 32)) w' → Below w.heap.size w w') := Lib.hid fun w' hb => B0.trans (hb.mono (by rw [z0]; omega))
  have HZ := Lib.hid (szEvd e _ _ _ _ 1048576 (((w.alloc (.cells #[.slice A e.ds.length n, .slice B' e.cr.length k', .slice C e.p.length i, .slice D e.q.length j] 26)).alloc (.cells #[.int .i64 d.cyl, .int .i64 d.heads, .int .i64 d.per, .int .i64 d.size, .slice X d.secs.length c] 29)).alloc (.cells #[.slice Y l.length c2] 32)) (H1.out.below B0) ⟨by omega, by omega⟩)
  clear RE RD RC B0
  have hzz : w.heap.size + 3 = ((((w.alloc (.cells #[.slice A e.ds.length n, .slice B' e.cr.length k', .slice C e.p.length i, .slice D e.q.length j] 26)).alloc (.cells #[.int .i64 d.cyl, .int .i64 d.heads, .int .i64 d.per, .int .i64 d.size, .slice X d.secs.length c] 29)).alloc (.cells #[.slice Y l.length c2] 32))).heap.size := z0.symm
  clear z0
  by_cases q1 : evZ 1048576 e < 0
  · generalize evZ 1048576 e = x at *
    have d1 : decide (x < 0) = true := by simpa using q1
    go_enter Tryz.func4, Tryz.ntmps4
    go_wp2_with (fail)
    generalize (((w.alloc (.cells #[.slice A e.ds.length n, .slice B' e.cr.length k', .slice C e.p.length i, .slice D e.q.length j] 26)).alloc (.cells #[.int .i64 d.cyl, .int .i64 d.heads, .int .i64 d.per, .int .i64 d.size, .slice X d.secs.length c] 29)).alloc (.cells #[.slice Y l.length c2] 32)) = w0 at *
    refine HZ.out.mono ?_; rintro r w1 ⟨rfl, hb1⟩
    go_wp2_with (fail)
    go_ret
    exact ⟨rfl, HBW.out _ hb1⟩
  have hw := evZ_small (e := e) (by omega) q1
  have hs := ev_small H1.out hw
  have hx : 0 ≤ evZ 1048576 e ∧ evZ 1048576 e ≤ 1048576 := ⟨by omega, evZ_le e (by omega)⟩
  generalize evZ 1048576 e = x at *
  have d1 : decide (x < 0) = false := by simpa using q1
  have HZD := Lib.hid (fun (w' : World) (hb : Below ((((w.alloc (.cells #[.slice A e.ds.length n, .slice B' e.cr.length k', .slice C e.p.length i, .slice D e.q.length j] 26)).alloc (.cells #[.int .i64 d.cyl, .int .i64 d.heads, .int .i64 d.per, .int .i64 d.size, .slice X d.secs.length c] 29)).alloc (.cells #[.slice Y l.length c2] 32))).heap.size (((w.alloc (.cells #[.slice A e.ds.length n, .slice B' e.cr.length k', .slice C e.p.length i, .slice D e.q.length j] 26)).alloc (.cells #[.int .i64 d.cyl, .int .i64 d.heads, .int .i64 d.per, .int .i64 d.size, .slice X d.secs.length c] 29)).alloc (.cells #[.slice Y l.length c2] 32)) w') => szDsc d (.slice X d.secs.length c) x w' (H2.out.below (HBW.out w' hb)) hx)
  by_cases q2 : szR x d.wt < 0
  · generalize szR x d.wt = y at *
    have d2 : decide (y < 0) = true := by simpa using q2
    go_enter Tryz.func4, Tryz.ntmps4
    go_wp2_with (fail)
    generalize (((w.alloc (.cells #[.slice A e.ds.length n, .slice B' e.cr.length k', .slice C e.p.length i, .slice D e.q.length j] 26)).alloc (.cells #[.int .i64 d.cyl, .int .i64 d.heads, .int .i64 d.per, .int .i64 d.size, .slice X d.secs.length c] 29)).alloc (.cells #[.slice Y l.length c2] 32)) = w0 at *
    refine HZ.out.mono ?_; rintro r w1 ⟨rfl, hb1⟩
    obtain ⟨_, ⟨c0, c1, c2', c3, c4⟩, _⟩ := HRK.out w1 hb1
    go_wp2_with (fail)
    refine (HZD.out w1 hb1).mono ?_; rintro r w2 ⟨rfl, hb2⟩
    go_wp2_with (fail)
    go_ret
    exact ⟨rfl, HBW.out _ (hb1.trans (hb2.mono hb1.size))⟩
  have hy : 0 ≤ szR x d.wt ∧ szR x d.wt ≤ 1048576 := ⟨by omega, szR_le (by omega)⟩
  have nd : d.secs.length ≤ 1048576 := by
    have h1 : ((d.wt : Nat) : Int) ≤ x := by rw [szR_neg] at q2; omega
    have : d.wt = d.secs.length + Sec.wts d.secs := rfl
    omega
  generalize szR x d.wt = y at *
  have d2 : decide (y < 0) = false := by simpa using q2
  have HZC := Lib.hid (fun (w' : World) (hb : Below ((((w.alloc (.cells #[.slice A e.ds.length n, .slice B' e.cr.length k', .slice C e.p.length i, .slice D e.q.length j] 26)).alloc (.cells #[.int .i64 d.cyl, .int .i64 d.heads, .int .i64 d.per, .int .i64 d.size, .slice X d.secs.length c] 29)).alloc (.cells #[.slice Y l.length c2] 32))).heap.size (((w.alloc (.cells #[.slice A e.ds.length n, .slice B' e.cr.length k', .slice C e.p.length i, .slice D e.q.length j] 26)).alloc (.cells #[.int .i64 d.cyl, .int .i64 d.heads, .int .i64 d.per, .int .i64 d.size, .slice X d.secs.length c] 29)).alloc (.cells #[.slice Y l.length c2] 32)) w') => szCert l (.slice Y l.length c2) y w' (RSourceS.rawk H3.out (HBW.out w' hb)) hy)
  by_cases q3 : szR y (RSourceS.wt l) < 0
  · generalize szR y (RSourceS.wt l) = z at *
    have d3 : decide (z < 0) = true := by simpa using q3
    go_enter Tryz.func4, Tryz.ntmps4
    go_wp2_with (fail)
    generalize (((w.alloc (.cells #[.slice A e.ds.length n, .slice B' e.cr.length k', .slice C e.p.length i, .slice D e.q.length j] 26)).alloc (.cells #[.int .i64 d.cyl, .int .i64 d.heads, .int .i64 d.per, .int .i64 d.size, .slice X d.secs.length c] 29)).alloc (.cells #[.slice Y l.length c2] 32)) = w0 at *
    refine HZ.out.mono ?_; rintro r w1 ⟨rfl, hb1⟩
    obtain ⟨_, ⟨c0, c1, c2', c3, c4⟩, _⟩ := HRK.out w1 hb1
    go_wp2_with (fail)
    refine (HZD.out w1 hb1).mono ?_; rintro r w2 ⟨rfl, hb2⟩
    have hb12 := hb1.trans (hb2.mono hb1.size)
    obtain ⟨_, _, k0⟩ := HRK.out w2 hb12
    clear c0 c1 c2' c3 c4
    go_wp2_with (fail)
    refine (HZC.out w2 hb12).mono ?_; rintro r w3 ⟨rfl, hb3⟩
    go_wp2_with (fail)
    go_ret
    exact ⟨rfl, HBW.out _ (hb12.trans (hb3.mono hb12.size))⟩
  have hq : RSourceS.wt l ≤ 1048576 := by
    have h1 : ((RSourceS.wt l : Nat) : Int) ≤ y := by rw [szR_neg] at q3; omega
    omega
  have nl : l.length ≤ 1048576 := by have : RSourceS.wt l = l.length + Src.wts l := rfl; omega
  have cntl : RSourceS.cnt l ≤ 8388608 := by show l.length * 3 ≤ _; omega
  generalize szR y (RSourceS.wt l) = z at *
  have d3 : decide (z < 0) = false := by simpa using q3
  have TE := Lib.hid (fun (w' : World) (hb : Below ((((w.alloc (.cells #[.slice A e.ds.length n, .slice B' e.cr.length k', .slice C e.p.length i, .slice D e.q.length j] 26)).alloc (.cells #[.int .i64 d.cyl, .int .i64 d.heads, .int .i64 d.per, .int .i64 d.size, .slice X d.secs.length c] 29)).alloc (.cells #[.slice Y l.length c2] 32))).heap.size (((w.alloc (.cells #[.slice A e.ds.length n, .slice B' e.cr.length k', .slice C e.p.length i, .slice D e.q.length j] 26)).alloc (.cells #[.int .i64 d.cyl, .int .i64 d.heads, .int .i64 d.per, .int .i64 d.size, .slice X d.secs.length c] 29)).alloc (.cells #[.slice Y l.length c2] 32)) w') => toEvd e _ _ _ _ w' (H1.out.below (HBW.out w' hb)) hs.ds hs.secs hs.cr hs.p hs.q)
  have TD := Lib.hid (fun (w' : World) (hb : Below ((((w.alloc (.cells #[.slice A e.ds.length n, .slice B' e.cr.length k', .slice C e.p.length i, .slice D e.q.length j] 26)).alloc (.cells #[.int .i64 d.cyl, .int .i64 d.heads, .int .i64 d.per, .int .i64 d.size, .slice X d.secs.length c] 29)).alloc (.cells #[.slice Y l.length c2] 32))).heap.size (((w.alloc (.cells #[.slice A e.ds.length n, .slice B' e.cr.length k', .slice C e.p.length i, .slice D e.q.length j] 26)).alloc (.cells #[.int .i64 d.cyl, .int .i64 d.heads, .int .i64 d.per, .int .i64 d.size, .slice X d.secs.length c] 29)).alloc (.cells #[.slice Y l.length c2] 32)) w') => toDscR d _ w' (H2.out.below (HBW.out w' hb)) nd)
  have TC := Lib.hid (fun (w' : World) (hb : Below ((((w.alloc (.cells #[.slice A e.ds.length n, .slice B' e.cr.length k', .slice C e.p.length i, .slice D e.q.length j] 26)).alloc (.cells #[.int .i64 d.cyl, .int .i64 d.heads, .int .i64 d.per, .int .i64 d.size, .slice X d.secs.length c] 29)).alloc (.cells #[.slice Y l.length c2] 32))).heap.size (((w.alloc (.cells #[.slice A e.ds.length n, .slice B' e.cr.length k', .slice C e.p.length i, .slice D e.q.length j] 26)).alloc (.cells #[.int .i64 d.cyl, .int .i64 d.heads, .int .i64 d.per, .int .i64 d.size, .slice X d.secs.length c] 29)).alloc (.cells #[.slice Y l.length c2] 32)) w') => toCertR l _ w' (RSourceS.rawk H3.out (HBW.out w' hb)) hq)
  have FS := Lib.hid (fun (w' : World) (B Bd Ed Bc Ec : Nat) (a b cc dd x y : Value) (o : EvOwn B w' e a b cc dd) (od : OwnD Bd Ed w' x d.secs) (oc : RSourceS.own Bc Ec w' y l) => crt_s B Bd Bc e a b cc dd d x l y w' o hs od.1 nd md.out oc.1 nl)
  have FI := Lib.hid (fun (w' : World) (B Bd Ed Bc Ec : Nat) (a b cc dd x y : Value) (o : EvOwn B w' e a b cc dd) (od : OwnD Bd Ed w' x d.secs) (oc : RSourceS.own Bc Ec w' y l) => crt_i B Bd Bc e a b cc dd d x l y w' o hs od.1 nd md.out oc.1 nl)
  have QE := Lib.hid (fun (w' : World) (Ba Bb : Nat) (a b c d a' b' c' d' : Value) (o : EvOwn Ba w' e a b c d) (o' : EvOwn Bb w' e a' b' c' d') => eqEvd e Ba Bb w' o o' (by have := hs.ds; omega) (fun d hd => by have := hs.secs d hd; omega) (by have := hs.cr; omega) (by have := hs.p; omega) (by have := hs.q; omega))
  generalize chkC e d l = ok at *
  clear H1 H2 H3 hs hw md
  go_enter Tryz.func4, Tryz.ntmps4
  go_wp2_with (fail)
  generalize (((w.alloc (.cells #[.slice A e.ds.length n, .slice B' e.cr.length k', .slice C e.p.length i, .slice D e.q.length j] 26)).alloc (.cells #[.int .i64 d.cyl, .int .i64 d.heads, .int .i64 d.per, .int .i64 d.size, .slice X d.secs.length c] 29)).alloc (.cells #[.slice Y l.length c2] 32)) = w0 at *
  refine HZ.out.mono ?_; rintro r w1 ⟨rfl, hb1⟩
  obtain ⟨_, ⟨c0, c1, c2', c3, c4⟩, _⟩ := HRK.out w1 hb1
  go_wp2_with (fail)
  refine (HZD.out w1 hb1).mono ?_; rintro r w2 ⟨rfl, hb2⟩
  have hb12 := hb1.trans (hb2.mono hb1.size)
  obtain ⟨_, _, k0⟩ := HRK.out w2 hb12
  clear c0 c1 c2' c3 c4
  go_wp2_with (fail)
  refine (HZC.out w2 hb12).mono ?_; rintro r w3 ⟨rfl, hb3⟩
  have BB3 := hb12.trans (hb3.mono hb12.size)
  clear hb1 hb2 hb3 hb12 k0 HZ HZD HZC
  have BB3d := BB3.drew
  go_wp2_with (fail)
  go_region_held3 (fun w' => Four (.slice A e.ds.length n) (.slice B' e.cr.length k') (.slice C e.p.length i) (.slice D e.q.length j) w.heap.size w' ∧ Five d (.slice X d.secs.length c) (w.heap.size + 1) w' ∧ w'.cell? ⟨w.heap.size + 1 + 1, 0, none⟩ = some (.slice Y l.length c2))
    (first | exact HRK.out _ BB7 | exact HRK.out _ BB6 | exact HRK.out _ BB5 | exact HRK.out _ BB4 | exact HRK.out _ BB3d)
    (first
      | (go_at_call 19; refine (FS.out w6 _ _ _ _ _ _ _ _ _ _ _ ((o4.below hb5).below hb6) (OwnD.below o5 hb6) o6).mono ?_; rintro r w7 ⟨rfl, hb7⟩; have BB7 := BB6.trans (hb7.mono BB6.size))
      | (go_at_call 14; refine (TC.out w5 BB5).mono ?_; rintro r w6 ⟨A6, c6, rfl, o6, hb6⟩; have BB6 := BB5.trans (hb6.mono BB5.size))
      | (go_at_call 13; refine (TD.out w4 BB4).mono ?_; rintro r w5 ⟨A5, c5, rfl, o5, hb5⟩; have BB5 := BB4.trans (hb5.mono BB4.size))
      | (go_at_call 12; refine (TE.out _ BB3d).mono ?_; rintro r w4 ⟨a4, b4, cc4, dd4, rfl, o4, hb4⟩; obtain ⟨A4, n4, B4', k4, C4, i4, D4, j4, rfl, rfl, rfl, rfl⟩ := o4.shape; have BB4 := BB3d.trans (hb4.mono BB3d.size)))
  clear o4 o5 o6 hb4 hb5 hb6 hb7 BB3d BB4 BB5 BB6 FS
  obtain ⟨⟨c0, c1, c2', c3⟩, _, _⟩ := HRK.out w7 BB7
  go_wp2_with (fail)
  refine (TE.out w7 BB7).mono ?_; rintro r w8 ⟨a8, b8, cc8, dd8, rfl, o8, hb8⟩
  obtain ⟨A8, n8, B8', k8, C8, i8, D8, j8, rfl, rfl, rfl, rfl⟩ := o8.shape
  have Bx8 : Below w8.heap.size w8 (w8.alloc (.cells #[.slice A8 e.ds.length n8, .slice B8' e.cr.length k8, .slice C8 e.p.length i8, .slice D8 e.q.length j8] 39)) := Below.alloc (Below.refl _ _) (Nat.le_refl _) _
  have BB8 := BB7.trans (hb8.mono BB7.size)
  have BB9 : Below w0.heap.size w0 (w8.alloc (.cells #[.slice A8 e.ds.length n8, .slice B8' e.cr.length k8, .slice C8 e.p.length i8, .slice D8 e.q.length j8] 39)) := BB8.trans (Bx8.mono BB8.size)
  have z9 : w8.heap.size + 1 = ((w8.alloc (.cells #[.slice A8 e.ds.length n8, .slice B8' e.cr.length k8, .slice C8 e.p.length i8, .slice D8 e.q.length j8] 39))).heap.size := by simp
  have X9 : Row (w8.alloc (.cells #[.slice A8 e.ds.length n8, .slice B8' e.cr.length k8, .slice C8 e.p.length i8, .slice D8 e.q.length j8] 39)) w8.heap.size [.slice A8 e.ds.length n8, .slice B8' e.cr.length k8, .slice C8 e.p.length i8, .slice D8 e.q.length j8] := Row.alloc w8 #[.slice A8 e.ds.length n8, .slice B8' e.cr.length k8, .slice C8 e.p.length i8, .slice D8 e.q.length j8] 39
  have o9 := o8.below Bx8
  clear c0 c1 c2' c3 o8 hb8
  obtain ⟨_, ⟨c0, c1, c2', c3, c4⟩, _⟩ := HRK.out _ BB9
  go_wp2_with (fail)
  generalize (w8.alloc (.cells #[.slice A8 e.ds.length n8, .slice B8' e.cr.length k8, .slice C8 e.p.length i8, .slice D8 e.q.length j8] 39)) = w9 at *
  refine (TD.out w9 BB9).mono ?_; rintro r w10 ⟨A10, c10, rfl, o10, hb10⟩
  have Bx10 : Below w10.heap.size w10 (w10.alloc (.cells #[.int .i64 d.cyl, .int .i64 d.heads, .int .i64 d.per, .int .i64 d.size, .slice A10 d.secs.length c10] 43)) := Below.alloc (Below.refl _ _) (Nat.le_refl _) _
  have BB10 := BB9.trans (hb10.mono BB9.size)
  have BB11 : Below w0.heap.size w0 (w10.alloc (.cells #[.int .i64 d.cyl, .int .i64 d.heads, .int .i64 d.per, .int .i64 d.size, .slice A10 d.secs.length c10] 43)) := BB10.trans (Bx10.mono BB10.size)
  have z10 := hb10.size
  have z11 : w10.heap.size + 1 = ((w10.alloc (.cells #[.int .i64 d.cyl, .int .i64 d.heads, .int .i64 d.per, .int .i64 d.size, .slice A10 d.secs.length c10] 43))).heap.size := by simp
  have X11 := (X9.below hb10 (by omega)).below Bx10 (by omega)
  have Y11 : Row (w10.alloc (.cells #[.int .i64 d.cyl, .int .i64 d.heads, .int .i64 d.per, .int .i64 d.size, .slice A10 d.secs.length c10] 43)) w10.heap.size (dscL d (.slice A10 d.secs.length c10)) := Row.alloc w10 #[.int .i64 d.cyl, .int .i64 d.heads, .int .i64 d.per, .int .i64 d.size, .slice A10 d.secs.length c10] 43
  have o11 := (o9.below hb10).below Bx10
  have p11 := OwnD.below o10 Bx10
  clear c0 c1 c2' c3 c4 o9 o10 hb10 X9
  obtain ⟨_, _, k0⟩ := HRK.out _ BB11
  go_wp2_with (fail)
  generalize (w10.alloc (.cells #[.int .i64 d.cyl, .int .i64 d.heads, .int .i64 d.per, .int .i64 d.size, .slice A10 d.secs.length c10] 43)) = w11 at *
  refine (TC.out w11 BB11).mono ?_; rintro r w12 ⟨A12, c12, rfl, o12, hb12⟩
  have Bx12 : Below w12.heap.size w12 (w12.alloc (.cells #[.slice A12 l.length c12] 47)) := Below.alloc (Below.refl _ _) (Nat.le_refl _) _
  have BB12 := BB11.trans (hb12.mono BB11.size)
  have BB13 : Below w0.heap.size w0 (w12.alloc (.cells #[.slice A12 l.length c12] 47)) := BB12.trans (Bx12.mono BB12.size)
  have z12 := hb12.size
  have z13 : w12.heap.size + 1 = ((w12.alloc (.cells #[.slice A12 l.length c12] 47))).heap.size := by simp
  have X13 := (X11.below hb12 (by omega)).below Bx12 (by omega)
  have Y13 := (Y11.below hb12 (by omega)).below Bx12 (by omega)
  have Z13 : Row (w12.alloc (.cells #[.slice A12 l.length c12] 47)) w12.heap.size [.slice A12 l.length c12] := Row.alloc w12 #[.slice A12 l.length c12] 47
  have o13 := (o11.below hb12).below Bx12
  have p13 := OwnD.below (OwnD.below p11 hb12) Bx12
  have q13 := Rep.keep (R := RSourceS) o12 Bx12
  clear k0 o11 p11 o12 hb12 X11 Y11
  have HX : Hid (∀ w', Below ((w12.alloc (.cells #[.slice A12 l.length c12] 47))).heap.size (w12.alloc (.cells #[.slice A12 l.length c12] 47)) w' → Four (.slice A8 e.ds.length n8) (.slice B8' e.cr.length k8) (.slice C8 e.p.length i8) (.slice D8 e.q.length j8) w8.heap.size w' ∧ Five d (.slice A10 d.secs.length c10) w10.heap.size w' ∧ w'.cell? ⟨w12.heap.size, 0, none⟩ = some (.slice A12 l.length c12)) := Lib.hid fun w' hb => ⟨(X13.below hb (by omega)).four, (Y13.below hb (by omega)).five, (Z13.below hb (by omega)) 0 _ rfl⟩
  clear X13 Y13 Z13
  obtain ⟨⟨c0, c1, c2', c3⟩, ⟨c4, c5, c6', c7, c8⟩, k0⟩ := HX.out _ (Below.refl _ _)
  go_wp2_with (fail)
  generalize (w12.alloc (.cells #[.slice A12 l.length c12] 47)) = w13 at *
  refine (FI.out w13 _ _ _ _ _ _ _ _ _ _ _ o13 p13 q13).mono ?_; rintro r w14 ⟨rfl, hb14⟩
  clear c0 c1 c2' c3 c4 c5 c6' c7 c8 k0 FI
  have BB14 := BB13.trans (hb14.mono BB13.size)
  have o14 := o13.below hb14
  have p14 := OwnD.below p13 hb14
  have q14 := Rep.keep (R := RSourceS) q13 hb14
  clear o13 p13 q13
  have hok : (ok == ok) = true := by simp
  have hok' : (ok != ok) = false := by simp
  have BB14d := BB14.drew
  have hb14d := hb14.drew
  have o14d := o14.below (Below.refl w14.heap.size w14).drew
  go_wp2_with (fail)
  go_region_held3 (fun w' => (Four (.slice A8 e.ds.length n8) (.slice B8' e.cr.length k8) (.slice C8 e.p.length i8) (.slice D8 e.q.length j8) w8.heap.size w' ∧ Five d (.slice A10 d.secs.length c10) w10.heap.size w' ∧ w'.cell? ⟨w12.heap.size, 0, none⟩ = some (.slice A12 l.length c12)) ∧ (Four (.slice A e.ds.length n) (.slice B' e.cr.length k') (.slice C e.p.length i) (.slice D e.q.length j) w.heap.size w' ∧ Five d (.slice X d.secs.length c) (w.heap.size + 1) w' ∧ w'.cell? ⟨w.heap.size + 1 + 1, 0, none⟩ = some (.slice Y l.length c2)))
    (first | exact ⟨HX.out _ hb16', HRK.out _ BB16⟩ | exact ⟨HX.out _ hb15', HRK.out _ BB15⟩ | exact ⟨HX.out _ hb14d, HRK.out _ BB14d⟩)
    (first
      | (go_at_call 16; refine (QE.out w15 _ _ _ _ _ _ _ _ _ _ (o14d.below hb15) o15).mono ?_; rintro r w16 ⟨rfl, hb16⟩; have BB16 := BB15.trans (hb16.mono BB15.size); have hb16' := hb15'.trans (hb16.mono hb15'.size))
      | (go_at_call 12; refine (TE.out _ BB14d).mono ?_; rintro r w15 ⟨a15, b15, cc15, dd15, rfl, o15, hb15⟩; obtain ⟨A15, n15, B15', k15, C15, i15, D15, j15, rfl, rfl, rfl, rfl⟩ := o15.shape; have BB15 := BB14d.trans (hb15.mono BB14d.size); have hb15' := hb14d.trans (hb15.mono hb14d.size)))
  have p16 := OwnD.below (OwnD.below (OwnD.below p14 (Below.refl w14.heap.size w14).drew) hb15) hb16
  have q16 := Rep.keep (R := RSourceS) (Rep.keep (R := RSourceS) (Rep.keep (R := RSourceS) q14 (Below.refl w14.heap.size w14).drew) hb15) hb16
  clear o14 o14d o15 p14 q14 hb15 hb16 BB14 BB14d BB15 hb14 hb14d hb15'
  have BB16d := BB16.drew
  have hb16d := hb16'.drew
  have p16d := OwnD.below p16 (Below.refl w16.heap.size w16).drew
  go_wp2_with (fail)
  go_region_held3 (fun w' => (Four (.slice A8 e.ds.length n8) (.slice B8' e.cr.length k8) (.slice C8 e.p.length i8) (.slice D8 e.q.length j8) w8.heap.size w' ∧ Five d (.slice A10 d.secs.length c10) w10.heap.size w' ∧ w'.cell? ⟨w12.heap.size, 0, none⟩ = some (.slice A12 l.length c12)) ∧ (Four (.slice A e.ds.length n) (.slice B' e.cr.length k') (.slice C e.p.length i) (.slice D e.q.length j) w.heap.size w' ∧ Five d (.slice X d.secs.length c) (w.heap.size + 1) w' ∧ w'.cell? ⟨w.heap.size + 1 + 1, 0, none⟩ = some (.slice Y l.length c2)))
    (first | exact ⟨HX.out _ hb18', HRK.out _ BB18⟩ | exact ⟨HX.out _ hb17', HRK.out _ BB17⟩ | exact ⟨HX.out _ hb16d, HRK.out _ BB16d⟩)
    (first
      | (go_at_call 17; refine (eqDsc d _ _ _ _ w17 (OwnD.below p16d hb17).1 o17.1 (by omega)).mono ?_; rintro r w18 ⟨rfl, hb18⟩; have BB18 := BB17.trans (hb18.mono BB17.size); have hb18' := hb17'.trans (hb18.mono hb17'.size))
      | (go_at_call 13; refine (TD.out _ BB16d).mono ?_; rintro r w17 ⟨A17, c17, rfl, o17, hb17⟩; have BB17 := BB16d.trans (hb17.mono BB16d.size); have hb17' := hb16d.trans (hb17.mono hb16d.size)))
  have q18 := Rep.keep (R := RSourceS) (Rep.keep (R := RSourceS) (Rep.keep (R := RSourceS) q16 (Below.refl w16.heap.size w16).drew) hb17) hb18
  clear p16 p16d o17 q16 hb17 hb18 BB16 BB16d BB17 hb16' hb16d hb17'
  have BB18d := BB18.drew
  have hb18d := hb18'.drew
  have q18d := Rep.keep (R := RSourceS) q18 (Below.refl w18.heap.size w18).drew
  go_wp2_with (fail)
  go_region_held3 (fun w' => (Four (.slice A8 e.ds.length n8) (.slice B8' e.cr.length k8) (.slice C8 e.p.length i8) (.slice D8 e.q.length j8) w8.heap.size w' ∧ Five d (.slice A10 d.secs.length c10) w10.heap.size w' ∧ w'.cell? ⟨w12.heap.size, 0, none⟩ = some (.slice A12 l.length c12)) ∧ (Four (.slice A e.ds.length n) (.slice B' e.cr.length k') (.slice C e.p.length i) (.slice D e.q.length j) w.heap.size w' ∧ Five d (.slice X d.secs.length c) (w.heap.size + 1) w' ∧ w'.cell? ⟨w.heap.size + 1 + 1, 0, none⟩ = some (.slice Y l.length c2)))
    (first | exact ⟨HX.out _ hb20', HRK.out _ BB20⟩ | exact ⟨HX.out _ hb19', HRK.out _ BB19⟩ | exact ⟨HX.out _ hb18d, HRK.out _ BB18d⟩)
    (first
      | (go_at_call 18; refine (eqCert l _ _ _ _ _ _ w19 (Rep.keep (R := RSourceS) q18d hb19) o19 cntl).mono ?_; rintro r w20 ⟨rfl, hb20⟩; have BB20 := BB19.trans (hb20.mono BB19.size); have hb20' := hb19'.trans (hb20.mono hb19'.size))
      | (go_at_call 14; refine (TC.out _ BB18d).mono ?_; rintro r w19 ⟨A19, c19, rfl, o19, hb19⟩; have BB19 := BB18d.trans (hb19.mono BB18d.size); have hb19' := hb18d.trans (hb19.mono hb18d.size)))
  go_wp2_with (fail)
  go_ret
  exact ⟨rfl, HBW.out _ BB20⟩
end Go.Proofs.YtfcdienphillnaaGreat
namespace Go.Proofs.YtfcdienphillnaaGreat
set_option linter.unusedVariables false
set_option linter.unusedSimpArgs false
open Go.ChangeShapes Go.WideShapes Go.ChangeAt Go.RowKit
open Go.Joins (open_agg2 open_agg3 open_agg4)

theorem wf_i64 {x : Int} (h : (Lit.int .i64 x).wf = true) : -9223372036854775808 ≤ x ∧ x ≤ 9223372036854775807 := by
  simp [Lit.wf, IntKind.signed, IntKind.bits] at h
  exact h

section
variable {H : Type} {enc : TypeId × Value → H} {W : World} {base : Nat} {v : Value} {d : DataW H} {p : List MemPlace}
set_option maxRecDepth 20000 in
theorem o_str (e : Value.okWide Tryz.prog W .any base 9 v) (h : DataW.Trod enc Tryz.prog W 0 (fun _ => true) true 9 v d p) : ∃ s : ByteArray, v = .string s ∧ s.size ≤ maxLen := by
  obtain ⟨s, h1, _, _, h2⟩ := Go.ChangeMaps.open_string Tryz.underlying9 e h
  exact ⟨s, h1, h2⟩
set_option maxRecDepth 20000 in
theorem o_i64 (e : Value.okWide Tryz.prog W .any base 2 v) (h : DataW.Trod enc Tryz.prog W 0 (fun _ => true) true 2 v d p) : ∃ n : Int, v = .int .i64 n ∧ (Lit.int .i64 n).wf = true := by
  obtain ⟨s, h1, _, _, h2⟩ := open_int Tryz.underlying2 e h
  exact ⟨s, h1, h2⟩
end
end Go.Proofs.YtfcdienphillnaaGreat
namespace Go.Proofs.YtfcdienphillnaaGreat
set_option linter.unusedVariables false
set_option linter.unusedSimpArgs false
open Go.ChangeShapes Go.WideShapes Go.ChangeAt Go.RowKit
set_option maxRecDepth 20000

section
variable {H : Type} {enc : TypeId × Value → H} {W : World} {base : Nat} {v : Value} {d : DataW H} {p : List MemPlace} {fuel : Nat} {sp : Nat → Bool} {hd : Bool} {b0 : Nat} {cs : List Value} {x : DataW H × List MemPlace}
theorem c_Sector (h : DataW.trod enc Tryz.prog W b0 sp hd fuel 108 cs = some x) : ∃ e : Sec, cs = e.cells ∧ e.data.size ≤ maxLen := by
  obtain ⟨xs, n, rfl, _, hlen, hxs, hfs⟩ := DataW.trod_struct Tryz.underlying108 h
  have hC : Tryz.prog.cellsOf 108 = 2 := by kernel_rfl
  rw [hC] at hlen
  obtain ⟨c0, c1, rfl⟩ : ∃ c0 c1, cs = [c0, c1] := by
    match cs, hlen with
    | [c0, c1], _ => exact ⟨_, _, rfl⟩
  have f0 : DataW.trod enc Tryz.prog W b0 sp hd n 9 (List.take (Tryz.prog.cellsOf 9) (List.drop 0 [c0, c1])) = xs[0]? := hfs 0 _ rfl
  have k0 : Tryz.prog.cellsOf 9 = 1 := by kernel_rfl
  rw [k0] at f0
  simp only [List.drop, List.take] at f0
  obtain ⟨y0, hy0⟩ : ∃ y, xs[0]? = some y := ⟨xs[0]'(by rw [hxs]; decide), List.getElem?_eq_getElem _⟩
  rw [hy0] at f0
  obtain ⟨x0, e0, _, w0⟩ := DataW.trod_string Tryz.underlying9 f0
  have g0 : c0 = .string x0 := by simpa using e0
  have f1 : DataW.trod enc Tryz.prog W b0 sp hd n 2 (List.take (Tryz.prog.cellsOf 2) (List.drop 1 [c0, c1])) = xs[1]? := hfs 1 _ rfl
  have k1 : Tryz.prog.cellsOf 2 = 1 := by kernel_rfl
  rw [k1] at f1
  simp only [List.drop, List.take] at f1
  obtain ⟨y1, hy1⟩ : ∃ y, xs[1]? = some y := ⟨xs[1]'(by rw [hxs]; decide), List.getElem?_eq_getElem _⟩
  rw [hy1] at f1
  obtain ⟨x1, e1, _, w1⟩ := DataW.trod_int Tryz.underlying2 f1
  have g1 : c1 = .int .i64 x1 := by simpa using e1
  subst g0 g1
  exact ⟨⟨x0, x1⟩, rfl, w0⟩

theorem t_SectorS {sl : Nat} {c0 : Value} (hf : DataW.trod enc Tryz.prog W sl sp hd fuel 27 [c0] = some x) : ∃ l : List Sec, RawL Sec.cells 2 W c0 l ∧ ∀ e ∈ l, e.data.size ≤ maxLen := by
  have hC : Tryz.prog.cellsOf 108 = 2 := by kernel_rfl
  rcases Go.Deep.open_slice Tryz.underlying27 hf with ⟨hcs, _⟩ | ⟨a, n, c, m, k, D, Pl, hcs, hb, hl, hm, hmm, _, hx⟩
  · obtain rfl : c0 = .slice none 0 0 := by simpa using hcs
    exact ⟨[], ⟨none, 0, rfl, Nat.zero_le _, .inl rfl⟩, by simp⟩
  · obtain rfl : c0 = .slice (some a) n c := by simpa using hcs
    have hlm : n ≤ m := by rw [hmm]; split <;> omega
    obtain ⟨F, hF⟩ := Go.Deep.choose_lt (α := Sec) (n := n) (p := fun i e => (∀ j u, e.cells[j]? = some u → W.cell? (a.add (i * 2 + j)) = some u) ∧ e.data.size ≤ maxLen) (fun i hi => by
      obtain ⟨cs, h1, h2⟩ := hx i (by omega)
      rw [hC] at h1
      obtain ⟨e, rfl, hv⟩ := c_Sector h2
      obtain ⟨_, _, h3⟩ := World.cells?_some h1
      exact ⟨e, ⟨fun j u hu => by
        have hj : j < 2 := by have := (List.getElem?_eq_some_iff.1 hu).1; rw [Sec.len] at this; exact this
        rw [← hu, ← h3 j hj, Go.Deep.add_add], hv⟩⟩)
    have hlen : ((List.range n).map F).length = n := by simp
    refine ⟨(List.range n).map F, ⟨some a, c, by rw [hlen], by rw [hlen]; omega, ?_⟩, fun e he => by
      obtain ⟨i, hi, rfl⟩ := List.mem_map.1 he
      exact (hF i (List.mem_range.1 hi)).2⟩
    rcases Nat.eq_zero_or_pos n with rfl | h0
    · exact .inl rfl
    · obtain ⟨b, o, spot⟩ := a
      have hc0 := (hF 0 h0).1 0 _ rfl
      have hspot : spot = none := by simpa [Addr.add] using World.cell?_spot hc0
      subst hspot
      have hc00 := World.block_lt_of_cell? W _ hc0
      refine .inr ⟨b, o, rfl, by simpa [Addr.add] using hc00, fun k' e' j u hk hu => ?_⟩
      have hk' : k' < n := by have := (List.getElem?_eq_some_iff.1 hk).1; rw [hlen] at this; exact this
      have he : e' = F k' := by simp [hk'] at hk; exact hk.symm
      subst he
      have := (hF k' hk').1 j u hu
      rw [show o + k' * 2 + j = o + (k' * 2 + j) by omega]
      have e2 : (⟨b, o, none⟩ : Addr).add (k' * 2 + j) = ⟨b, o + (k' * 2 + j), none⟩ := by unfold Addr.add; split <;> simp_all
      rw [e2] at this
      exact this
theorem o_SectorS (e : Value.okWide Tryz.prog W .any base 27 v) (h : DataW.Trod enc Tryz.prog W 0 sp hd 27 v d p) : ∃ l : List Sec, RawL Sec.cells 2 W v l ∧ ∀ e ∈ l, e.data.size ≤ maxLen := by
  obtain ⟨A, n, c, rfl⟩ := okWide_slice Tryz.underlying27 e
  obtain ⟨fuel, hf⟩ := h
  exact t_SectorS (c0 := .slice A n c) (by simpa [Value.cells] using hf)
theorem o_RSectorS (e : Value.okWide Tryz.prog W .any base 27 v) (h : DataW.Trod enc Tryz.prog W 0 sp hd 27 v d p) : ∃ l : List Sec, RSectorS.raw W v l := by
  obtain ⟨l, h1, h2⟩ := o_SectorS e h
  exact ⟨l, h1, h2⟩
end
end Go.Proofs.YtfcdienphillnaaGreat
