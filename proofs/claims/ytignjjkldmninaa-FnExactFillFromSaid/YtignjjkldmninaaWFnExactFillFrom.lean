/- The walk of FnExactFillFrom. Printed by gen_fill.py. -/
import Derived.Test.YtignjjkldmninaaFillH
import Derived.Deep.RegionHeld3
import Derived.Deep.CutRange
namespace Go.Proofs.Ytignjjkldmninaa
set_option linter.unusedVariables false
open Go.RowKit
theorem cut_set5 {w2 w5 : World} {f : Dsc} {K E : Int} {A : Option Addr} {c B g : Nat} (C : Below w2.heap.size w2 w5) (o : SecOwn B w5 (.slice A f.secs.length c) f.secs) (Z : Row w5 g (dscL ⟨0, 0, 0, 0, []⟩ (.slice none 0 0))) (hg : w2.heap.size ≤ g) (hgB : g < B) (hgw : g < w5.heap.size) :
    FillCut w2 (((((w5.setCell ⟨g, 0, none⟩ (.int .i64 f.cyl)).setCell ⟨g, 1, none⟩ (.int .i64 f.heads)).setCell ⟨g, 2, none⟩ (.int .i64 f.per)).setCell ⟨g, 3, none⟩ (.int .i64 f.size)).setCell ⟨g, 4, none⟩ (.slice A f.secs.length c)) f K E (.pointer (some ⟨g, 0, none⟩)) (.int .i64 K) (.int .i64 E) := by
  have HC := cut_set (K := K) (E := E) C o Z hg hgB hgw
  simp only [setL, Nat.zero_add] at HC
  exact HC
theorem alloc_lt {w : World} {o : Obj} : w.heap.size < (w.alloc o).heap.size := by simp
set_option maxRecDepth 20000 in
set_option maxHeartbeats 8000000 in
theorem walkFnExactFillFrom (a b : Dsc) (w : World) {va vb : Value} (ha : SecIn w va a.secs) (hb : SecIn w vb b.secs) :
    Calls Try.prog 7 #[dscV a va, dscV b vb] w fun e w' => e = .returned (.bool true) ∧ Below w.heap.size w w' := by
  have H1 := Lib.hid ha
  have H2 := Lib.hid hb
  obtain ⟨⟨A, c, e1, _, _⟩, ma⟩ := ha
  obtain ⟨⟨A', c', e2, _, _⟩, mb⟩ := hb
  subst e1 e2
  have B_w0 : Below w.heap.size w ((w.alloc (.cells #[.int .i64 a.cyl, .int .i64 a.heads, .int .i64 a.per, .int .i64 a.size, .slice A a.secs.length c] 31)).alloc (.cells #[.int .i64 b.cyl, .int .i64 b.heads, .int .i64 b.per, .int .i64 b.size, .slice A' b.secs.length c'] 31)) := (by repeat (first | exact Below.refl _ _ | refine Below.alloc ?_ (by first | omega | (simp; done) | (simp; omega)) _ | apply Below.drew | apply below_drewN | refine Below.setCell ?_ (by first | omega | (simp; done) | (simp; omega)) _ | refine Below.trans ?_ (Below.mono (by assumption) (by first | omega | (simp; done) | (simp; omega)))))
  have z0 : w.heap.size + 2 ≤ (((w.alloc (.cells #[.int .i64 a.cyl, .int .i64 a.heads, .int .i64 a.per, .int .i64 a.size, .slice A a.secs.length c] 31)).alloc (.cells #[.int .i64 b.cyl, .int .i64 b.heads, .int .i64 b.per, .int .i64 b.size, .slice A' b.secs.length c'] 31))).heap.size := by simp
  have Rb_w0 : Row ((w.alloc (.cells #[.int .i64 a.cyl, .int .i64 a.heads, .int .i64 a.per, .int .i64 a.size, .slice A a.secs.length c] 31)).alloc (.cells #[.int .i64 b.cyl, .int .i64 b.heads, .int .i64 b.per, .int .i64 b.size, .slice A' b.secs.length c'] 31)) (w.heap.size + 1) (dscL b (.slice A' b.secs.length c')) := by simpa using Row.alloc (w.alloc (.cells #[.int .i64 a.cyl, .int .i64 a.heads, .int .i64 a.per, .int .i64 a.size, .slice A a.secs.length c] 31)) #[.int .i64 b.cyl, .int .i64 b.heads, .int .i64 b.per, .int .i64 b.size, .slice A' b.secs.length c'] 31
  have Ra_w0 : Row ((w.alloc (.cells #[.int .i64 a.cyl, .int .i64 a.heads, .int .i64 a.per, .int .i64 a.size, .slice A a.secs.length c] 31)).alloc (.cells #[.int .i64 b.cyl, .int .i64 b.heads, .int .i64 b.per, .int .i64 b.size, .slice A' b.secs.length c'] 31)) w.heap.size (dscL a (.slice A a.secs.length c)) := (Row.alloc w #[.int .i64 a.cyl, .int .i64 a.heads, .int .i64 a.per, .int .i64 a.size, .slice A a.secs.length c] 31).below (Below.alloc (Below.refl _ _) (Nat.le_refl _) _) (by simp)
  have HZ := Lib.hid (szDsc a (.slice A a.secs.length c) 1048576 ((w.alloc (.cells #[.int .i64 a.cyl, .int .i64 a.heads, .int .i64 a.per, .int .i64 a.size, .slice A a.secs.length c] 31)).alloc (.cells #[.int .i64 b.cyl, .int .i64 b.heads, .int .i64 b.per, .int .i64 b.size, .slice A' b.secs.length c'] 31)) (H1.out.below B_w0) ⟨by omega, by omega⟩)
  by_cases q1 : szR 1048576 a.wt < 0
  · generalize szR 1048576 a.wt = x at *
    have d1 : decide (x < 0) = true := by simpa using q1
    go_enter Try.func7, Try.ntmps7
    go_wp2_with (fail)
    refine HZ.out.mono ?_; rintro e w1 ⟨rfl, hb1⟩
    go_wp2
    go_ret
    exact ⟨rfl, B_w0.trans (hb1.mono (by omega))⟩
  have hx : 0 ≤ szR 1048576 a.wt ∧ szR 1048576 a.wt ≤ 1048576 := ⟨by omega, szR_le (by omega)⟩
  have na : a.secs.length ≤ 1048576 := by
    have h1 : ((a.wt : Nat) : Int) ≤ 1048576 := by rw [szR_neg] at q1; omega
    have : a.wt = a.secs.length + Sec.wts a.secs := rfl
    omega
  generalize szR 1048576 a.wt = x at *
  have d1 : decide (x < 0) = false := by simpa using q1
  have HZn := Lib.hid (fun (w' : World) (hb : Below w.heap.size w w') => szDsc b (.slice A' b.secs.length c') x w' (H2.out.below hb) hx)
  by_cases q2 : szR x b.wt < 0
  · generalize szR x b.wt = y at *
    have d2 : decide (y < 0) = true := by simpa using q2
    go_enter Try.func7, Try.ntmps7
    go_wp2_with (fail)
    refine HZ.out.mono ?_; rintro e w1 ⟨rfl, hb1⟩
    have B1 := B_w0.trans (hb1.mono (by omega))
    have Rn1 := Rb_w0.below hb1 (by omega)
    obtain ⟨k0, k1, k2, k3, k4⟩ := Rn1.five
    go_wp2_with (fail)
    refine (HZn.out w1 B1).mono ?_; rintro e w2 ⟨rfl, hb2⟩
    go_wp2
    go_ret
    exact ⟨rfl, B1.trans (hb2.mono B1.size)⟩
  have nb : b.secs.length ≤ 1048576 := by
    have h1 : ((b.wt : Nat) : Int) ≤ x := by rw [szR_neg] at q2; omega
    have : b.wt = b.secs.length + Sec.wts b.secs := rfl
    omega
  generalize szR x b.wt = y at *
  have d2 : decide (y < 0) = false := by simpa using q2
  have Ta := Lib.hid (fun (w' : World) (hb : Below w.heap.size w w') => toDscR a _ w' (H1.out.below hb) na)
  have Tb := Lib.hid (fun (w' : World) (hb : Below w.heap.size w w') => toDscR b _ w' (H2.out.below hb) nb)
  have Fs := Lib.hid (fun (w' : World) (Ba Ea Bb Eb : Nat) (x y : Value) (oa : OwnD Ba Ea w' x a.secs) (ob : OwnD Bb Eb w' y b.secs) => fill_s Ba Bb a b x y w' oa.1 ob.1 na nb ma mb)
  have Fi := Lib.hid (fun (w' : World) (Ba Ea Bb Eb : Nat) (x y : Value) (oa : OwnD Ba Ea w' x a.secs) (ob : OwnD Bb Eb w' y b.secs) => fill_i Ba Bb a b x y w' oa.1 ob.1 na nb ma mb)
  have nf : (fillD a b).secs.length ≤ 1048576 := Nat.le_trans fillD_len na
  unfold FillR at Fs Fi
  generalize fillD a b = f at *
  generalize fillK a b = K at *
  generalize fillE a b = E at *
  clear H1 H2 ma mb
  go_enter Try.func7, Try.ntmps7
  go_wp2_with (fail)
  refine HZ.out.mono ?_; rintro e w1 ⟨rfl, hb1⟩
  replace z0 : w.heap.size + 2 ≤ w1.heap.size := Nat.le_trans z0 hb1.size
  have Ra_w1 := Ra_w0.below hb1 (by simp <;> omega)
  have Rb_w1 := Rb_w0.below hb1 (by simp)
  have B_w1 := B_w0.trans (hb1.mono B_w0.size)
  clear Ra_w0 Rb_w0 B_w0 HZ hb1
  obtain ⟨k0, k1, k2, k3, k4⟩ := Rb_w1.five
  go_wp2_with (fail)
  refine (HZn.out w1 B_w1).mono ?_; rintro e w2 ⟨rfl, hb2⟩
  clear k0 k1 k2 k3 k4
  have z_w2 : w1.heap.size ≤ w2.heap.size := hb2.size
  have B_w2 : Below w.heap.size w w2 := B_w1.trans (hb2.mono (by omega))
  have Ra_w2 := Ra_w1.below hb2 (by omega)
  have Rb_w2 := Rb_w1.below hb2 (by omega)
  clear B_w1 Ra_w1 Rb_w1
  clear HZn
  go_upto_region 8 with fail
  have hwz : w.heap.size + 2 ≤ w2.heap.size := by omega
  have lA : w.heap.size < w2.heap.size := by omega
  have lB : w.heap.size + 1 < w2.heap.size := by omega
  have hww : w.heap.size ≤ w2.heap.size := by omega
  have Bd : Below w2.heap.size w2 w2.drew := (Below.refl _ _).drew
  have Ba : Below w2.heap.size w2 ((w2.alloc (.cells #[.int .i64 0, .int .i64 0, .int .i64 0, .int .i64 0, .slice none 0 0] 39)).drew) := Below.drew (Below.alloc (Below.refl _ _) (Nat.le_refl _) _)
  have HBd := Lib.hid (B_w2.trans (Below.mono Bd hww))
  have HBa := Lib.hid (B_w2.trans (Below.mono Ba hww))
  have HRa := Lib.hid Ra_w2
  have HRb := Lib.hid Rb_w2
  have HB2 := Lib.hid B_w2
  obtain ⟨k0, k1, k2, k3, k4⟩ := (Row.belowK HRa.out Bd lA).five
  obtain ⟨j0, j1, j2, j3, j4⟩ := (Row.belowK HRb.out Bd lB).five
  obtain ⟨n0, n1, n2, n3, n4⟩ := HRa.out.five
  obtain ⟨m0, m1, m2, m3, m4⟩ := HRb.out.five
  have HZ1 : Hid (Row ((w2.alloc (.cells #[.int .i64 0, .int .i64 0, .int .i64 0, .int .i64 0, .slice none 0 0] 39)).drew) w2.heap.size (dscL ⟨0, 0, 0, 0, []⟩ (.slice none 0 0))) := Lib.hid (by intro j u hu; exact Row.alloc w2 #[.int .i64 0, .int .i64 0, .int .i64 0, .int .i64 0, .slice none 0 0] 39 j u hu)
  have HF1 : Hid (∀ o, ((w2.alloc (.cells #[.int .i64 0, .int .i64 0, .int .i64 0, .int .i64 0, .slice none 0 0] 39)).drew).frozen? ⟨w2.heap.size, o, none⟩ = false) := Lib.hid (by intro o; exact alloc_frozen (w := w2) (cs := #[.int .i64 0, .int .i64 0, .int .i64 0, .int .i64 0, .slice none 0 0]) (e := 39) o)
  have l1 : w2.heap.size < ((w2.alloc (.cells #[.int .i64 0, .int .i64 0, .int .i64 0, .int .i64 0, .slice none 0 0] 39)).drew).heap.size := by simp
  go_cut [6, 7, 8] from 30 to 38 (fun p6 v7 v8 wx => FillCut w2 wx f K E p6 v7 v8)
  case first =>
    go_region_law (go_simp; first | (go_at_call 35; first | (have t0 := Z4; clear t0; (have O3b := O3; have O4b := O4; refine (Fs.out w4 _ _ _ _ _ _ O3b.out O4b.out).mono ?_; rintro e w5 ⟨A5, c5, rfl, o5, hb5⟩; dsimp only; have C5 : Below w2.heap.size w2 w5 := Below.trans C4 (Below.mono hb5 (Below.size C4)); have O5 := Lib.hid o5; have s5 := Below.size C5; have Z5 := Lib.hid (Row.below Z4.out hb5 l4); have F5 := Lib.hid (frozen_below F4.out hb5 l4); have l5 := Nat.lt_of_lt_of_le l4 (Below.size hb5); obtain ⟨y0, y1, y2, y3, y4⟩ := Row.five Z5.out; have f0 := F5.out 0; have f1 := F5.out 1; have f2 := F5.out 2; have f3 := F5.out 3; have f4 := F5.out 4; clear o5 hb5)) | (have O3b := O3; have O4b := O4; refine (Fs.out w4 _ _ _ _ _ _ O3b.out O4b.out).mono ?_; rintro e w5 ⟨A5, c5, rfl, o5, hb5⟩; dsimp only; have C5 : Below w2.heap.size w2 w5 := Below.trans C4 (Below.mono hb5 (Below.size C4)); have O5 := Lib.hid o5; have s5 := Below.size C5; clear o5 hb5) | (have O3b := Lib.hid (OwnD.below O3.out (Below.alloc (Below.refl _ _) (Nat.le_refl _) _ : Below w4.heap.size w4 (w4.alloc (.cells #[.int .i64 0, .int .i64 0, .int .i64 0, .int .i64 0, .slice none 0 0] 39)))); have O4b := Lib.hid (OwnD.below O4.out (Below.alloc (Below.refl _ _) (Nat.le_refl _) _ : Below w4.heap.size w4 (w4.alloc (.cells #[.int .i64 0, .int .i64 0, .int .i64 0, .int .i64 0, .slice none 0 0] 39)))); have C4a : Below w2.heap.size w2 (w4.alloc (.cells #[.int .i64 0, .int .i64 0, .int .i64 0, .int .i64 0, .slice none 0 0] 39)) := Below.alloc C4 s4 _; have Zn : Hid (Row (w4.alloc (.cells #[.int .i64 0, .int .i64 0, .int .i64 0, .int .i64 0, .slice none 0 0] 39)) w4.heap.size (dscL ⟨0, 0, 0, 0, []⟩ (.slice none 0 0))) := Lib.hid (Row.alloc w4 #[.int .i64 0, .int .i64 0, .int .i64 0, .int .i64 0, .slice none 0 0] 39); have Fn : Hid (∀ o, (w4.alloc (.cells #[.int .i64 0, .int .i64 0, .int .i64 0, .int .i64 0, .slice none 0 0] 39)).frozen? ⟨w4.heap.size, o, none⟩ = false) := Lib.hid (alloc_frozen (w := w4) (cs := #[.int .i64 0, .int .i64 0, .int .i64 0, .int .i64 0, .slice none 0 0]) (e := 39)); have ln : w4.heap.size < (w4.alloc (.cells #[.int .i64 0, .int .i64 0, .int .i64 0, .int .i64 0, .slice none 0 0] 39)).heap.size := alloc_lt; refine (Fs.out (w4.alloc (.cells #[.int .i64 0, .int .i64 0, .int .i64 0, .int .i64 0, .slice none 0 0] 39)) _ _ _ _ _ _ O3b.out O4b.out).mono ?_; rintro e w5 ⟨A5, c5, rfl, o5, hb5⟩; dsimp only; have C5 : Below w2.heap.size w2 w5 := Below.trans C4a (Below.mono hb5 (Below.size C4a)); have O5 := Lib.hid o5; have s5 := Below.size C5; have Z5 := Lib.hid (Row.below Zn.out hb5 ln); have F5 := Lib.hid (frozen_below Fn.out hb5 ln); have l5 := Nat.lt_of_lt_of_le ln (Below.size hb5); obtain ⟨y0, y1, y2, y3, y4⟩ := Row.five Z5.out; have f0 := F5.out 0; have f1 := F5.out 1; have f2 := F5.out 2; have f3 := F5.out 3; have f4 := F5.out 4; have sg : w2.heap.size ≤ w4.heap.size := s4; clear o5 hb5)) | (go_at_call 36; first | (have t0 := C3; clear t0; first | (have t0 := Z3; clear t0; (have O3b := O3; refine (Tb.out w3 (HB2.out.trans (Below.mono C3 hww))).mono ?_; rintro e w4 ⟨A4, c4, rfl, o4, hb4⟩; dsimp only; have C4 : Below w2.heap.size w2 w4 := Below.trans C3 (Below.mono hb4 (Below.size C3)); have s4 := Below.size C4; have O4 := Lib.hid o4; have Z4 := Lib.hid (Row.below Z3.out hb4 l3); have F4 := Lib.hid (frozen_below F3.out hb4 l3); have l4 := Nat.lt_of_lt_of_le l3 (Below.size hb4); have O3 := Lib.hid (OwnD.below O3b.out hb4); clear o4 hb4)) | (have O3b := O3; refine (Tb.out w3 (HB2.out.trans (Below.mono C3 hww))).mono ?_; rintro e w4 ⟨A4, c4, rfl, o4, hb4⟩; dsimp only; have C4 : Below w2.heap.size w2 w4 := Below.trans C3 (Below.mono hb4 (Below.size C3)); have s4 := Below.size C4; have O4 := Lib.hid o4; have O3 := Lib.hid (OwnD.below O3b.out hb4); clear o4 hb4) | (have O3b := Lib.hid (OwnD.below O3.out (Below.alloc (Below.refl _ _) (Nat.le_refl _) _ : Below w3.heap.size w3 (w3.alloc (.cells #[.int .i64 0, .int .i64 0, .int .i64 0, .int .i64 0, .slice none 0 0] 39)))); have C3a : Below w2.heap.size w2 (w3.alloc (.cells #[.int .i64 0, .int .i64 0, .int .i64 0, .int .i64 0, .slice none 0 0] 39)) := Below.alloc C3 s3 _; have Zn : Hid (Row (w3.alloc (.cells #[.int .i64 0, .int .i64 0, .int .i64 0, .int .i64 0, .slice none 0 0] 39)) w3.heap.size (dscL ⟨0, 0, 0, 0, []⟩ (.slice none 0 0))) := Lib.hid (Row.alloc w3 #[.int .i64 0, .int .i64 0, .int .i64 0, .int .i64 0, .slice none 0 0] 39); have Fn : Hid (∀ o, (w3.alloc (.cells #[.int .i64 0, .int .i64 0, .int .i64 0, .int .i64 0, .slice none 0 0] 39)).frozen? ⟨w3.heap.size, o, none⟩ = false) := Lib.hid (alloc_frozen (w := w3) (cs := #[.int .i64 0, .int .i64 0, .int .i64 0, .int .i64 0, .slice none 0 0]) (e := 39)); have ln : w3.heap.size < (w3.alloc (.cells #[.int .i64 0, .int .i64 0, .int .i64 0, .int .i64 0, .slice none 0 0] 39)).heap.size := alloc_lt; refine (Tb.out (w3.alloc (.cells #[.int .i64 0, .int .i64 0, .int .i64 0, .int .i64 0, .slice none 0 0] 39)) (HB2.out.trans (Below.mono C3a hww))).mono ?_; rintro e w4 ⟨A4, c4, rfl, o4, hb4⟩; dsimp only; have C4 : Below w2.heap.size w2 w4 := Below.trans C3a (Below.mono hb4 (Below.size C3a)); have s4 := Below.size C4; have O4 := Lib.hid o4; have Z4 := Lib.hid (Row.below Zn.out hb4 ln); have F4 := Lib.hid (frozen_below Fn.out hb4 ln); have l4 := Nat.lt_of_lt_of_le ln (Below.size hb4); have O3 := Lib.hid (OwnD.below O3b.out hb4); clear o4 hb4)) | (refine (Ta.out _ HBa.out).mono ?_; rintro e w3 ⟨A3, c3, rfl, o3, hb3⟩; dsimp only; have C3 : Below w2.heap.size w2 w3 := Below.trans Ba (Below.mono hb3 (Below.size Ba)); have O3 := Lib.hid o3; have s3 := Below.size C3; have Z3 := Lib.hid (Row.below HZ1.out hb3 l1); have F3 := Lib.hid (frozen_below HF1.out hb3 l1); have l3 : w2.heap.size < w3.heap.size := Nat.lt_of_lt_of_le l1 (Below.size hb3); obtain ⟨k30, k31, k32, k33, k34⟩ := (Row.belowK HRa.out C3 lA).five; obtain ⟨j30, j31, j32, j33, j34⟩ := (Row.belowK HRb.out C3 lB).five; have C3n : Below w2.heap.size w2 (w3.alloc (.cells #[.int .i64 0, .int .i64 0, .int .i64 0, .int .i64 0, .slice none 0 0] 39)) := Below.alloc C3 s3 _; obtain ⟨i30, i31, i32, i33, i34⟩ := (Row.belowK HRb.out C3n lB).five; clear o3 hb3 C3n) | (refine (Ta.out _ HBd.out).mono ?_; rintro e w3 ⟨A3, c3, rfl, o3, hb3⟩; dsimp only; have C3 : Below w2.heap.size w2 w3 := Below.trans Bd (Below.mono hb3 (Below.size Bd)); have O3 := Lib.hid o3; have s3 := Below.size C3; obtain ⟨k30, k31, k32, k33, k34⟩ := (Row.belowK HRa.out C3 lA).five; obtain ⟨j30, j31, j32, j33, j34⟩ := (Row.belowK HRb.out C3 lB).five; have C3n : Below w2.heap.size w2 (w3.alloc (.cells #[.int .i64 0, .int .i64 0, .int .i64 0, .int .i64 0, .slice none 0 0] 39)) := Below.alloc C3 s3 _; obtain ⟨i30, i31, i32, i33, i34⟩ := (Row.belowK HRb.out C3n lB).five; clear o3 hb3 C3n)))
    all_goals clear k0 k1 k2 k3 k4 j0 j1 j2 j3 j4 n0 n1 n2 n3 n4 m0 m1 m2 m3 m4 k30 k31 k32 k33 k34 j30 j31 j32 j33 j34 i30 i31 i32 i33 i34 HRa HRb HBd HBa HZ1 HF1 Ba Bd HB2 lA lB hww
    all_goals (go_wp2_with fail)
    all_goals go_meet
    all_goals (first | (have t0 := Z5; clear t0; refine cut_set5 C5 O5.out Z5.out ?_ ?_ l5 <;> first | exact Nat.le_refl _ | exact s3 | exact s4 | exact l4 | exact ln) | exact cut_end C5 O5.out (by first | exact s4 | exact Nat.le_trans s4 (Nat.le_of_lt alloc_lt)))
  case rest =>
  obtain ⟨gw6, A_w6, c_w6, Bow6, Eow6, rfl, rfl, rfl, hb_w6, R_w6, glw6, ghw6, o_w6, olw6, ohw6, odw6⟩ := hcut
  generalize wc = w6 at *
  clear k0 k1 k2 k3 k4 j0 j1 j2 j3 j4 n0 n1 n2 n3 n4 m0 m1 m2 m3 m4 HRa HRb HBd HBa HZ1 HF1 Ba Bd HB2 lA lB hww hwz l1
  have z_w6 : w2.heap.size ≤ w6.heap.size := hb_w6.size
  have B_w6 : Below w.heap.size w w6 := B_w2.trans (hb_w6.mono (by omega))
  have Ra_w6 := Ra_w2.below hb_w6 (by omega)
  have Rb_w6 := Rb_w2.below hb_w6 (by omega)
  clear B_w2 Ra_w2 Rb_w2
  obtain ⟨k0, k1, k2, k3, k4⟩ := Ra_w6.five
  go_wp2_with (fail)
  refine (Ta.out w6 B_w6).mono ?_; rintro e w7 ⟨A_w7, c_w7, rfl, o_w7, hb_w7⟩
  clear k0 k1 k2 k3 k4
  have z_w7 : w6.heap.size ≤ w7.heap.size := hb_w7.size
  have B_w7 : Below w.heap.size w w7 := B_w6.trans (hb_w7.mono (by omega))
  have Ra_w7 := Ra_w6.below hb_w7 (by omega)
  have Rb_w7 := Rb_w6.below hb_w7 (by omega)
  have R6_w7 := R_w6.below hb_w7 (by omega)
  have O6_w7 := o_w6.below hb_w7
  clear B_w6 Ra_w6 Rb_w6 R_w6 o_w6
  have HA_w8 : Below w7.heap.size w7 (w7.alloc (.cells #[.int .i64 a.cyl, .int .i64 a.heads, .int .i64 a.per, .int .i64 a.size, (.slice A_w7 a.secs.length c_w7)] 39)) := Below.alloc (Below.refl _ _) (Nat.le_refl _) _
  have zz_w8 : w7.heap.size + 1 = ((w7.alloc (.cells #[.int .i64 a.cyl, .int .i64 a.heads, .int .i64 a.per, .int .i64 a.size, (.slice A_w7 a.secs.length c_w7)] 39))).heap.size := by simp
  have B_w8 : Below w.heap.size w (w7.alloc (.cells #[.int .i64 a.cyl, .int .i64 a.heads, .int .i64 a.per, .int .i64 a.size, (.slice A_w7 a.secs.length c_w7)] 39)) := B_w7.trans (HA_w8.mono (by omega))
  have Ra_w8 := Ra_w7.below HA_w8 (by omega)
  have Rb_w8 := Rb_w7.below HA_w8 (by omega)
  have R6_w8 := R6_w7.below HA_w8 (by omega)
  have O6_w8 := O6_w7.below HA_w8
  have O9_w8 := o_w7.below HA_w8
  have R9_w8 : Row (w7.alloc (.cells #[.int .i64 a.cyl, .int .i64 a.heads, .int .i64 a.per, .int .i64 a.size, (.slice A_w7 a.secs.length c_w7)] 39)) w7.heap.size (dscL a (.slice A_w7 a.secs.length c_w7)) := Row.alloc w7 _ _
  clear B_w7 Ra_w7 Rb_w7 R6_w7 O6_w7 o_w7
  obtain ⟨k0, k1, k2, k3, k4⟩ := Rb_w8.five
  go_wp2_with (fail)
  generalize (w7.alloc (.cells #[.int .i64 a.cyl, .int .i64 a.heads, .int .i64 a.per, .int .i64 a.size, (.slice A_w7 a.secs.length c_w7)] 39)) = w8 at *
  refine (Tb.out w8 B_w8).mono ?_; rintro e w9 ⟨A_w9, c_w9, rfl, o_w9, hb_w9⟩
  clear k0 k1 k2 k3 k4
  have z_w9 : w8.heap.size ≤ w9.heap.size := hb_w9.size
  have B_w9 : Below w.heap.size w w9 := B_w8.trans (hb_w9.mono (by omega))
  have Ra_w9 := Ra_w8.below hb_w9 (by omega)
  have Rb_w9 := Rb_w8.below hb_w9 (by omega)
  have R6_w9 := R6_w8.below hb_w9 (by omega)
  have R9_w9 := R9_w8.below hb_w9 (by omega)
  have O6_w9 := O6_w8.below hb_w9
  have O9_w9 := O9_w8.below hb_w9
  clear B_w8 Ra_w8 Rb_w8 R6_w8 R9_w8 O6_w8 O9_w8
  have HA_w10 : Below w9.heap.size w9 (w9.alloc (.cells #[.int .i64 b.cyl, .int .i64 b.heads, .int .i64 b.per, .int .i64 b.size, (.slice A_w9 b.secs.length c_w9)] 39)) := Below.alloc (Below.refl _ _) (Nat.le_refl _) _
  have zz_w10 : w9.heap.size + 1 = ((w9.alloc (.cells #[.int .i64 b.cyl, .int .i64 b.heads, .int .i64 b.per, .int .i64 b.size, (.slice A_w9 b.secs.length c_w9)] 39))).heap.size := by simp
  have B_w10 : Below w.heap.size w (w9.alloc (.cells #[.int .i64 b.cyl, .int .i64 b.heads, .int .i64 b.per, .int .i64 b.size, (.slice A_w9 b.secs.length c_w9)] 39)) := B_w9.trans (HA_w10.mono (by omega))
  have Ra_w10 := Ra_w9.below HA_w10 (by omega)
  have Rb_w10 := Rb_w9.below HA_w10 (by omega)
  have R6_w10 := R6_w9.below HA_w10 (by omega)
  have R9_w10 := R9_w9.below HA_w10 (by omega)
  have O6_w10 := O6_w9.below HA_w10
  have O9_w10 := O9_w9.below HA_w10
  have O10_w10 := o_w9.below HA_w10
  have R10_w10 : Row (w9.alloc (.cells #[.int .i64 b.cyl, .int .i64 b.heads, .int .i64 b.per, .int .i64 b.size, (.slice A_w9 b.secs.length c_w9)] 39)) w9.heap.size (dscL b (.slice A_w9 b.secs.length c_w9)) := Row.alloc w9 _ _
  clear B_w9 Ra_w9 Rb_w9 R6_w9 R9_w9 O6_w9 O9_w9 o_w9
  obtain ⟨k0, k1, k2, k3, k4⟩ := R9_w10.five
  obtain ⟨j0, j1, j2, j3, j4⟩ := R10_w10.five
  go_wp2_with (fail)
  generalize (w9.alloc (.cells #[.int .i64 b.cyl, .int .i64 b.heads, .int .i64 b.per, .int .i64 b.size, (.slice A_w9 b.secs.length c_w9)] 39)) = w10 at *
  refine (Fi.out w10 _ _ _ _ _ _ O9_w10 O10_w10).mono ?_; rintro e w11 ⟨A_w11, c_w11, rfl, o_w11, hb_w11⟩
  clear k0 k1 k2 k3 k4
  clear j0 j1 j2 j3 j4
  have z_w11 : w10.heap.size ≤ w11.heap.size := hb_w11.size
  have B_w11 : Below w.heap.size w w11 := B_w10.trans (hb_w11.mono (by omega))
  have Ra_w11 := Ra_w10.below hb_w11 (by omega)
  have Rb_w11 := Rb_w10.below hb_w11 (by omega)
  have R6_w11 := R6_w10.below hb_w11 (by omega)
  have R9_w11 := R9_w10.below hb_w11 (by omega)
  have R10_w11 := R10_w10.below hb_w11 (by omega)
  have O6_w11 := O6_w10.below hb_w11
  have O9_w11 := O9_w10.below hb_w11
  have O10_w11 := O10_w10.below hb_w11
  clear B_w10 Ra_w10 Rb_w10 R6_w10 R9_w10 R10_w10 O6_w10 O9_w10 O10_w10
  replace o_w11 := OwnD.of o_w11
  have HA_w12 : Below w11.heap.size w11 (w11.alloc (.cells #[.int .i64 f.cyl, .int .i64 f.heads, .int .i64 f.per, .int .i64 f.size, (.slice A_w11 f.secs.length c_w11)] 39)) := Below.alloc (Below.refl _ _) (Nat.le_refl _) _
  have zz_w12 : w11.heap.size + 1 = ((w11.alloc (.cells #[.int .i64 f.cyl, .int .i64 f.heads, .int .i64 f.per, .int .i64 f.size, (.slice A_w11 f.secs.length c_w11)] 39))).heap.size := by simp
  have B_w12 : Below w.heap.size w (w11.alloc (.cells #[.int .i64 f.cyl, .int .i64 f.heads, .int .i64 f.per, .int .i64 f.size, (.slice A_w11 f.secs.length c_w11)] 39)) := B_w11.trans (HA_w12.mono (by omega))
  have Ra_w12 := Ra_w11.below HA_w12 (by omega)
  have Rb_w12 := Rb_w11.below HA_w12 (by omega)
  have R6_w12 := R6_w11.below HA_w12 (by omega)
  have R9_w12 := R9_w11.below HA_w12 (by omega)
  have R10_w12 := R10_w11.below HA_w12 (by omega)
  have O6_w12 := O6_w11.below HA_w12
  have O9_w12 := O9_w11.below HA_w12
  have O10_w12 := O10_w11.below HA_w12
  have O11_w12 := o_w11.below HA_w12
  have R11_w12 : Row (w11.alloc (.cells #[.int .i64 f.cyl, .int .i64 f.heads, .int .i64 f.per, .int .i64 f.size, (.slice A_w11 f.secs.length c_w11)] 39)) w11.heap.size (dscL f (.slice A_w11 f.secs.length c_w11)) := Row.alloc w11 _ _
  clear B_w11 Ra_w11 Rb_w11 R6_w11 R9_w11 R10_w11 O6_w11 O9_w11 O10_w11 o_w11
  obtain ⟨k0, k1, k2, k3, k4⟩ := R11_w12.five
  obtain ⟨j0, j1, j2, j3, j4⟩ := R6_w12.five
  go_wp2_with (fail)
  generalize (w11.alloc (.cells #[.int .i64 f.cyl, .int .i64 f.heads, .int .i64 f.per, .int .i64 f.size, (.slice A_w11 f.secs.length c_w11)] 39)) = w12 at *
  refine (eqDsc f _ _ _ _ w12 O11_w12.1 O6_w12.1 (by omega)).mono ?_; rintro e w13 ⟨rfl, hb_w13⟩
  clear k0 k1 k2 k3 k4
  clear j0 j1 j2 j3 j4
  have z_w13 : w12.heap.size ≤ w13.heap.size := hb_w13.size
  have B_w13 : Below w.heap.size w w13 := B_w12.trans (hb_w13.mono (by omega))
  have Ra_w13 := Ra_w12.below hb_w13 (by omega)
  have Rb_w13 := Rb_w12.below hb_w13 (by omega)
  have R6_w13 := R6_w12.below hb_w13 (by omega)
  have R9_w13 := R9_w12.below hb_w13 (by omega)
  have R10_w13 := R10_w12.below hb_w13 (by omega)
  have R11_w13 := R11_w12.below hb_w13 (by omega)
  have O6_w13 := O6_w12.below hb_w13
  have O9_w13 := O9_w12.below hb_w13
  have O10_w13 := O10_w12.below hb_w13
  have O11_w13 := O11_w12.below hb_w13
  clear B_w12 Ra_w12 Rb_w12 R6_w12 R9_w12 R10_w12 R11_w12 O6_w12 O9_w12 O10_w12 O11_w12
  go_wp2_with (fail)
  have Ob_d := O9_w13.below (Below.refl _ _).drew
  have Ra_d := Ra_w13.below (Below.refl _ _).drew (by omega)
  have R9_d := R9_w13.below (Below.refl _ _).drew (by omega)
  have B_d := B_w13.drew
  go_region_held3 (fun w' => Five a (.slice A a.secs.length c) (w.heap.size) w' ∧ Five a (.slice A_w7 a.secs.length c_w7) (w7.heap.size) w')
    (first | exact ⟨Ra_d.five, R9_d.five⟩ | exact ⟨(Ra_d.below hb_w14 (by  show w.heap.size < _; show _ < w13.heap.size; omega)).five, (R9_d.below hb_w14 (by  show w7.heap.size < _; show _ < w13.heap.size; omega)).five⟩ | exact ⟨((Ra_d.below hb_w14 (by  show w.heap.size < _; show _ < w13.heap.size; omega)).below hb_w15 (by have q0 : _ ≤ _ := hb_w14.size; (replace q0 : w13.heap.size ≤ _ := q0);  show w.heap.size < _;  omega)).five, ((R9_d.below hb_w14 (by  show w7.heap.size < _; show _ < w13.heap.size; omega)).below hb_w15 (by have q0 : _ ≤ _ := hb_w14.size; (replace q0 : w13.heap.size ≤ _ := q0);  show w7.heap.size < _;  omega)).five⟩)
    (first | (go_at_call 36; refine (Ta.out _ B_d).mono ?_; rintro e w14 ⟨A_w14, c_w14, rfl, o_w14, hb_w14⟩) | (go_at_call 38; refine (eqDsc a _ _ _ _ w14 (Ob_d.below hb_w14).1 o_w14.1 (by omega)).mono ?_; rintro e w15 ⟨rfl, hb_w15⟩))
  replace hb_w14 : Below w13.heap.size w13 w14 := ((Below.refl w13.heap.size w13).drew).trans hb_w14
  clear Ra_d R9_d B_d Ob_d o_w14
  have z_w14 : w13.heap.size ≤ w14.heap.size := hb_w14.size
  have B_w14 : Below w.heap.size w w14 := B_w13.trans (hb_w14.mono (by omega))
  have Ra_w14 := Ra_w13.below hb_w14 (by omega)
  have Rb_w14 := Rb_w13.below hb_w14 (by omega)
  have R6_w14 := R6_w13.below hb_w14 (by omega)
  have R9_w14 := R9_w13.below hb_w14 (by omega)
  have R10_w14 := R10_w13.below hb_w14 (by omega)
  have R11_w14 := R11_w13.below hb_w14 (by omega)
  have O6_w14 := O6_w13.below hb_w14
  have O9_w14 := O9_w13.below hb_w14
  have O10_w14 := O10_w13.below hb_w14
  have O11_w14 := O11_w13.below hb_w14
  clear B_w13 Ra_w13 Rb_w13 R6_w13 R9_w13 R10_w13 R11_w13 O6_w13 O9_w13 O10_w13 O11_w13
  have z_w15 : w14.heap.size ≤ w15.heap.size := hb_w15.size
  have B_w15 : Below w.heap.size w w15 := B_w14.trans (hb_w15.mono (by omega))
  have Ra_w15 := Ra_w14.below hb_w15 (by omega)
  have Rb_w15 := Rb_w14.below hb_w15 (by omega)
  have R6_w15 := R6_w14.below hb_w15 (by omega)
  have R9_w15 := R9_w14.below hb_w15 (by omega)
  have R10_w15 := R10_w14.below hb_w15 (by omega)
  have R11_w15 := R11_w14.below hb_w15 (by omega)
  have O6_w15 := O6_w14.below hb_w15
  have O9_w15 := O9_w14.below hb_w15
  have O10_w15 := O10_w14.below hb_w15
  have O11_w15 := O11_w14.below hb_w15
  clear B_w14 Ra_w14 Rb_w14 R6_w14 R9_w14 R10_w14 R11_w14 O6_w14 O9_w14 O10_w14 O11_w14
  go_wp2_with (fail)
  have Ob_d := O10_w15.below (Below.refl _ _).drew
  have Rb_d := Rb_w15.below (Below.refl _ _).drew (by omega)
  have R10_d := R10_w15.below (Below.refl _ _).drew (by omega)
  have B_d := B_w15.drew
  go_region_held3 (fun w' => Five b (.slice A' b.secs.length c') (w.heap.size + 1) w' ∧ Five b (.slice A_w9 b.secs.length c_w9) (w9.heap.size) w')
    (first | exact ⟨Rb_d.five, R10_d.five⟩ | exact ⟨(Rb_d.below hb_w16 (by  show w.heap.size + 1 < _; show _ < w15.heap.size; omega)).five, (R10_d.below hb_w16 (by  show w9.heap.size < _; show _ < w15.heap.size; omega)).five⟩ | exact ⟨((Rb_d.below hb_w16 (by  show w.heap.size + 1 < _; show _ < w15.heap.size; omega)).below hb_w17 (by have q0 : _ ≤ _ := hb_w16.size; (replace q0 : w15.heap.size ≤ _ := q0);  show w.heap.size + 1 < _;  omega)).five, ((R10_d.below hb_w16 (by  show w9.heap.size < _; show _ < w15.heap.size; omega)).below hb_w17 (by have q0 : _ ≤ _ := hb_w16.size; (replace q0 : w15.heap.size ≤ _ := q0);  show w9.heap.size < _;  omega)).five⟩)
    (first | (go_at_call 36; refine (Tb.out _ B_d).mono ?_; rintro e w16 ⟨A_w16, c_w16, rfl, o_w16, hb_w16⟩) | (go_at_call 38; refine (eqDsc b _ _ _ _ w16 (Ob_d.below hb_w16).1 o_w16.1 (by omega)).mono ?_; rintro e w17 ⟨rfl, hb_w17⟩))
  replace hb_w16 : Below w15.heap.size w15 w16 := ((Below.refl w15.heap.size w15).drew).trans hb_w16
  clear Rb_d R10_d B_d Ob_d o_w16
  have z_w16 : w15.heap.size ≤ w16.heap.size := hb_w16.size
  have B_w16 : Below w.heap.size w w16 := B_w15.trans (hb_w16.mono (by omega))
  have Ra_w16 := Ra_w15.below hb_w16 (by omega)
  have Rb_w16 := Rb_w15.below hb_w16 (by omega)
  have R6_w16 := R6_w15.below hb_w16 (by omega)
  have R9_w16 := R9_w15.below hb_w16 (by omega)
  have R10_w16 := R10_w15.below hb_w16 (by omega)
  have R11_w16 := R11_w15.below hb_w16 (by omega)
  have O6_w16 := O6_w15.below hb_w16
  have O9_w16 := O9_w15.below hb_w16
  have O10_w16 := O10_w15.below hb_w16
  have O11_w16 := O11_w15.below hb_w16
  clear B_w15 Ra_w15 Rb_w15 R6_w15 R9_w15 R10_w15 R11_w15 O6_w15 O9_w15 O10_w15 O11_w15
  have z_w17 : w16.heap.size ≤ w17.heap.size := hb_w17.size
  have B_w17 : Below w.heap.size w w17 := B_w16.trans (hb_w17.mono (by omega))
  have Ra_w17 := Ra_w16.below hb_w17 (by omega)
  have Rb_w17 := Rb_w16.below hb_w17 (by omega)
  have R6_w17 := R6_w16.below hb_w17 (by omega)
  have R9_w17 := R9_w16.below hb_w17 (by omega)
  have R10_w17 := R10_w16.below hb_w17 (by omega)
  have R11_w17 := R11_w16.below hb_w17 (by omega)
  have O6_w17 := O6_w16.below hb_w17
  have O9_w17 := O9_w16.below hb_w17
  have O10_w17 := O10_w16.below hb_w17
  have O11_w17 := O11_w16.below hb_w17
  clear B_w16 Ra_w16 Rb_w16 R6_w16 R9_w16 R10_w16 R11_w16 O6_w16 O9_w16 O10_w16 O11_w16
  obtain ⟨k0, k1, k2, k3, k4⟩ := R9_w17.five
  go_wp2_with (fail)
  refine (markDsc a _ 1 _ _ w17 O9_w17 (by omega) (by omega) (by omega)).mono ?_; rintro e w18 ⟨rfl, om_w18, hc_w18⟩
  clear k0 k1 k2 k3 k4
  have z_w18 : w17.heap.size ≤ w18.heap.size := hc_w18.size
  have B_w18 : Below w.heap.size w w18 := Chg.below B_w17 hc_w18 (by omega) (Nat.le_refl _)
  have Ra_w18 := Ra_w17.chg hc_w18 (by omega) (by omega)
  have Rb_w18 := Rb_w17.chg hc_w18 (by omega) (by omega)
  have R6_w18 := R6_w17.chg hc_w18 (by omega) (by omega)
  have R9_w18 := R9_w17.chg hc_w18 (by omega) (by omega)
  have R10_w18 := R10_w17.chg hc_w18 (by omega) (by omega)
  have R11_w18 := R11_w17.chg hc_w18 (by omega) (by omega)
  have O6_w18 := O6_w17.chg hc_w18 (by omega)
  have O10_w18 := O10_w17.chg hc_w18 (by omega)
  have O11_w18 := O11_w17.chg hc_w18 (by omega)
  clear B_w17 Ra_w17 Rb_w17 R6_w17 R9_w17 R10_w17 R11_w17 O6_w17 O9_w17 O10_w17 O11_w17
  obtain ⟨k0, k1, k2, k3, k4⟩ := R10_w18.five
  go_wp2_with (fail)
  refine (markDsc b _ (1 + a.secs.length * 2) _ _ w18 O10_w18 (by omega) (by omega) (by omega)).mono ?_; rintro e w19 ⟨rfl, om_w19, hc_w19⟩
  clear k0 k1 k2 k3 k4
  have z_w19 : w18.heap.size ≤ w19.heap.size := hc_w19.size
  have B_w19 : Below w.heap.size w w19 := Chg.below B_w18 hc_w19 (by omega) (Nat.le_refl _)
  have Ra_w19 := Ra_w18.chg hc_w19 (by omega) (by omega)
  have Rb_w19 := Rb_w18.chg hc_w19 (by omega) (by omega)
  have R6_w19 := R6_w18.chg hc_w19 (by omega) (by omega)
  have R9_w19 := R9_w18.chg hc_w19 (by omega) (by omega)
  have R10_w19 := R10_w18.chg hc_w19 (by omega) (by omega)
  have R11_w19 := R11_w18.chg hc_w19 (by omega) (by omega)
  have O6_w19 := O6_w18.chg hc_w19 (by omega)
  have O9_w19 := om_w18.chg hc_w19 (by omega)
  have O11_w19 := O11_w18.chg hc_w19 (by omega)
  clear B_w18 Ra_w18 Rb_w18 R6_w18 R9_w18 R10_w18 R11_w18 O6_w18 om_w18 O10_w18 O11_w18
  have dk : decide (((1 + a.secs.length * 2 + b.secs.length * 2 : Nat) : Int) < 0) = false := by simp; omega
  obtain ⟨k0, k1, k2, k3, k4⟩ := R11_w19.five
  obtain ⟨j0, j1, j2, j3, j4⟩ := R6_w19.five
  go_wp2_with (fail)
  refine (eqDsc f _ _ _ _ w19 O11_w19.1 O6_w19.1 (by omega)).mono ?_; rintro e w20 ⟨rfl, hb_w20⟩
  clear k0 k1 k2 k3 k4
  clear j0 j1 j2 j3 j4
  have z_w20 : w19.heap.size ≤ w20.heap.size := hb_w20.size
  have B_w20 : Below w.heap.size w w20 := B_w19.trans (hb_w20.mono (by omega))
  have Ra_w20 := Ra_w19.below hb_w20 (by omega)
  have Rb_w20 := Rb_w19.below hb_w20 (by omega)
  have R6_w20 := R6_w19.below hb_w20 (by omega)
  have R9_w20 := R9_w19.below hb_w20 (by omega)
  have R10_w20 := R10_w19.below hb_w20 (by omega)
  have R11_w20 := R11_w19.below hb_w20 (by omega)
  have O6_w20 := O6_w19.below hb_w20
  have O9_w20 := O9_w19.below hb_w20
  have O10_w20 := om_w19.below hb_w20
  have O11_w20 := O11_w19.below hb_w20
  clear B_w19 Ra_w19 Rb_w19 R6_w19 R9_w19 R10_w19 R11_w19 O6_w19 O9_w19 om_w19 O11_w19
  obtain ⟨k0, k1, k2, k3, k4⟩ := R11_w20.five
  go_wp2_with (fail)
  refine (markDsc f _ 1 _ _ w20 O11_w20 (by omega) (by omega) (by omega)).mono ?_; rintro e w21 ⟨rfl, om_w21, hc_w21⟩
  clear k0 k1 k2 k3 k4
  have z_w21 : w20.heap.size ≤ w21.heap.size := hc_w21.size
  have B_w21 : Below w.heap.size w w21 := Chg.below B_w20 hc_w21 (by omega) (Nat.le_refl _)
  have Ra_w21 := Ra_w20.chg hc_w21 (by omega) (by omega)
  have Rb_w21 := Rb_w20.chg hc_w21 (by omega) (by omega)
  have R6_w21 := R6_w20.chg hc_w21 (by omega) (by omega)
  have R9_w21 := R9_w20.chg hc_w21 (by omega) (by omega)
  have R10_w21 := R10_w20.chg hc_w21 (by omega) (by omega)
  have R11_w21 := R11_w20.chg hc_w21 (by omega) (by omega)
  have O6_w21 := O6_w20.chg hc_w21 (by omega)
  have O9_w21 := O9_w20.chg hc_w21 (by omega)
  have O10_w21 := O10_w20.chg hc_w21 (by omega)
  clear B_w20 Ra_w20 Rb_w20 R6_w20 R9_w20 R10_w20 R11_w20 O6_w20 O9_w20 O10_w20 O11_w20
  obtain ⟨k0, k1, k2, k3, k4⟩ := R11_w21.five
  go_wp2_with (fail)
  refine (heldDsc f _ 1 _ _ w21 om_w21 (by omega) (by omega) (by omega) ⟨_, _, rfl⟩).mono ?_; rintro e w22 ⟨rfl, hb_w22⟩
  clear k0 k1 k2 k3 k4
  have z_w22 : w21.heap.size ≤ w22.heap.size := hb_w22.size
  have B_w22 : Below w.heap.size w w22 := B_w21.trans (hb_w22.mono (by omega))
  have Ra_w22 := Ra_w21.below hb_w22 (by omega)
  have Rb_w22 := Rb_w21.below hb_w22 (by omega)
  have R6_w22 := R6_w21.below hb_w22 (by omega)
  have R9_w22 := R9_w21.below hb_w22 (by omega)
  have R10_w22 := R10_w21.below hb_w22 (by omega)
  have R11_w22 := R11_w21.below hb_w22 (by omega)
  have O6_w22 := O6_w21.below hb_w22
  have O9_w22 := O9_w21.below hb_w22
  have O10_w22 := O10_w21.below hb_w22
  have O11_w22 := om_w21.below hb_w22
  clear B_w21 Ra_w21 Rb_w21 R6_w21 R9_w21 R10_w21 R11_w21 O6_w21 O9_w21 O10_w21 om_w21
  have df : decide (((1 + f.secs.length * 2 : Nat) : Int) < 0) = false := by simp; omega
  go_upto_region 31 with fail
  have hwz : w.heap.size + 2 ≤ w22.heap.size := by omega
  have lA : w.heap.size < w22.heap.size := by omega
  have lB : w.heap.size + 1 < w22.heap.size := by omega
  have hww : w.heap.size ≤ w22.heap.size := by omega
  have Bd : Below w22.heap.size w22 w22.drew := (Below.refl _ _).drew
  have Ba : Below w22.heap.size w22 ((w22.alloc (.cells #[.int .i64 0, .int .i64 0, .int .i64 0, .int .i64 0, .slice none 0 0] 39)).drew) := Below.drew (Below.alloc (Below.refl _ _) (Nat.le_refl _) _)
  have HBd := Lib.hid (B_w22.trans (Below.mono Bd hww))
  have HBa := Lib.hid (B_w22.trans (Below.mono Ba hww))
  have HRa := Lib.hid Ra_w22
  have HRb := Lib.hid Rb_w22
  have HB2 := Lib.hid B_w22
  obtain ⟨k0, k1, k2, k3, k4⟩ := (Row.belowK HRa.out Bd lA).five
  obtain ⟨j0, j1, j2, j3, j4⟩ := (Row.belowK HRb.out Bd lB).five
  obtain ⟨n0, n1, n2, n3, n4⟩ := HRa.out.five
  obtain ⟨m0, m1, m2, m3, m4⟩ := HRb.out.five
  have HZ1 : Hid (Row ((w22.alloc (.cells #[.int .i64 0, .int .i64 0, .int .i64 0, .int .i64 0, .slice none 0 0] 39)).drew) w22.heap.size (dscL ⟨0, 0, 0, 0, []⟩ (.slice none 0 0))) := Lib.hid (by intro j u hu; exact Row.alloc w22 #[.int .i64 0, .int .i64 0, .int .i64 0, .int .i64 0, .slice none 0 0] 39 j u hu)
  have HF1 : Hid (∀ o, ((w22.alloc (.cells #[.int .i64 0, .int .i64 0, .int .i64 0, .int .i64 0, .slice none 0 0] 39)).drew).frozen? ⟨w22.heap.size, o, none⟩ = false) := Lib.hid (by intro o; exact alloc_frozen (w := w22) (cs := #[.int .i64 0, .int .i64 0, .int .i64 0, .int .i64 0, .slice none 0 0]) (e := 39) o)
  have l1 : w22.heap.size < ((w22.alloc (.cells #[.int .i64 0, .int .i64 0, .int .i64 0, .int .i64 0, .slice none 0 0] 39)).drew).heap.size := by simp
  go_cut [17, 18, 19] from 109 to 117 (fun p6 v7 v8 wx => FillCut w22 wx f K E p6 v7 v8)
  case first =>
    go_region_law (go_simp; first | (go_at_call 37; first | (have t0 := Z4; clear t0; (have O3b := O3; have O4b := O4; refine (Fi.out w4 _ _ _ _ _ _ O3b.out O4b.out).mono ?_; rintro e w5 ⟨A5, c5, rfl, o5, hb5⟩; dsimp only; have C5 : Below w22.heap.size w22 w5 := Below.trans C4 (Below.mono hb5 (Below.size C4)); have O5 := Lib.hid o5; have s5 := Below.size C5; have Z5 := Lib.hid (Row.below Z4.out hb5 l4); have F5 := Lib.hid (frozen_below F4.out hb5 l4); have l5 := Nat.lt_of_lt_of_le l4 (Below.size hb5); obtain ⟨y0, y1, y2, y3, y4⟩ := Row.five Z5.out; have f0 := F5.out 0; have f1 := F5.out 1; have f2 := F5.out 2; have f3 := F5.out 3; have f4 := F5.out 4; clear o5 hb5)) | (have O3b := O3; have O4b := O4; refine (Fi.out w4 _ _ _ _ _ _ O3b.out O4b.out).mono ?_; rintro e w5 ⟨A5, c5, rfl, o5, hb5⟩; dsimp only; have C5 : Below w22.heap.size w22 w5 := Below.trans C4 (Below.mono hb5 (Below.size C4)); have O5 := Lib.hid o5; have s5 := Below.size C5; clear o5 hb5) | (have O3b := Lib.hid (OwnD.below O3.out (Below.alloc (Below.refl _ _) (Nat.le_refl _) _ : Below w4.heap.size w4 (w4.alloc (.cells #[.int .i64 0, .int .i64 0, .int .i64 0, .int .i64 0, .slice none 0 0] 39)))); have O4b := Lib.hid (OwnD.below O4.out (Below.alloc (Below.refl _ _) (Nat.le_refl _) _ : Below w4.heap.size w4 (w4.alloc (.cells #[.int .i64 0, .int .i64 0, .int .i64 0, .int .i64 0, .slice none 0 0] 39)))); have C4a : Below w22.heap.size w22 (w4.alloc (.cells #[.int .i64 0, .int .i64 0, .int .i64 0, .int .i64 0, .slice none 0 0] 39)) := Below.alloc C4 s4 _; have Zn : Hid (Row (w4.alloc (.cells #[.int .i64 0, .int .i64 0, .int .i64 0, .int .i64 0, .slice none 0 0] 39)) w4.heap.size (dscL ⟨0, 0, 0, 0, []⟩ (.slice none 0 0))) := Lib.hid (Row.alloc w4 #[.int .i64 0, .int .i64 0, .int .i64 0, .int .i64 0, .slice none 0 0] 39); have Fn : Hid (∀ o, (w4.alloc (.cells #[.int .i64 0, .int .i64 0, .int .i64 0, .int .i64 0, .slice none 0 0] 39)).frozen? ⟨w4.heap.size, o, none⟩ = false) := Lib.hid (alloc_frozen (w := w4) (cs := #[.int .i64 0, .int .i64 0, .int .i64 0, .int .i64 0, .slice none 0 0]) (e := 39)); have ln : w4.heap.size < (w4.alloc (.cells #[.int .i64 0, .int .i64 0, .int .i64 0, .int .i64 0, .slice none 0 0] 39)).heap.size := alloc_lt; refine (Fi.out (w4.alloc (.cells #[.int .i64 0, .int .i64 0, .int .i64 0, .int .i64 0, .slice none 0 0] 39)) _ _ _ _ _ _ O3b.out O4b.out).mono ?_; rintro e w5 ⟨A5, c5, rfl, o5, hb5⟩; dsimp only; have C5 : Below w22.heap.size w22 w5 := Below.trans C4a (Below.mono hb5 (Below.size C4a)); have O5 := Lib.hid o5; have s5 := Below.size C5; have Z5 := Lib.hid (Row.below Zn.out hb5 ln); have F5 := Lib.hid (frozen_below Fn.out hb5 ln); have l5 := Nat.lt_of_lt_of_le ln (Below.size hb5); obtain ⟨y0, y1, y2, y3, y4⟩ := Row.five Z5.out; have f0 := F5.out 0; have f1 := F5.out 1; have f2 := F5.out 2; have f3 := F5.out 3; have f4 := F5.out 4; have sg : w22.heap.size ≤ w4.heap.size := s4; clear o5 hb5)) | (go_at_call 36; first | (have t0 := C3; clear t0; first | (have t0 := Z3; clear t0; (have O3b := O3; refine (Tb.out w3 (HB2.out.trans (Below.mono C3 hww))).mono ?_; rintro e w4 ⟨A4, c4, rfl, o4, hb4⟩; dsimp only; have C4 : Below w22.heap.size w22 w4 := Below.trans C3 (Below.mono hb4 (Below.size C3)); have s4 := Below.size C4; have O4 := Lib.hid o4; have Z4 := Lib.hid (Row.below Z3.out hb4 l3); have F4 := Lib.hid (frozen_below F3.out hb4 l3); have l4 := Nat.lt_of_lt_of_le l3 (Below.size hb4); have O3 := Lib.hid (OwnD.below O3b.out hb4); clear o4 hb4)) | (have O3b := O3; refine (Tb.out w3 (HB2.out.trans (Below.mono C3 hww))).mono ?_; rintro e w4 ⟨A4, c4, rfl, o4, hb4⟩; dsimp only; have C4 : Below w22.heap.size w22 w4 := Below.trans C3 (Below.mono hb4 (Below.size C3)); have s4 := Below.size C4; have O4 := Lib.hid o4; have O3 := Lib.hid (OwnD.below O3b.out hb4); clear o4 hb4) | (have O3b := Lib.hid (OwnD.below O3.out (Below.alloc (Below.refl _ _) (Nat.le_refl _) _ : Below w3.heap.size w3 (w3.alloc (.cells #[.int .i64 0, .int .i64 0, .int .i64 0, .int .i64 0, .slice none 0 0] 39)))); have C3a : Below w22.heap.size w22 (w3.alloc (.cells #[.int .i64 0, .int .i64 0, .int .i64 0, .int .i64 0, .slice none 0 0] 39)) := Below.alloc C3 s3 _; have Zn : Hid (Row (w3.alloc (.cells #[.int .i64 0, .int .i64 0, .int .i64 0, .int .i64 0, .slice none 0 0] 39)) w3.heap.size (dscL ⟨0, 0, 0, 0, []⟩ (.slice none 0 0))) := Lib.hid (Row.alloc w3 #[.int .i64 0, .int .i64 0, .int .i64 0, .int .i64 0, .slice none 0 0] 39); have Fn : Hid (∀ o, (w3.alloc (.cells #[.int .i64 0, .int .i64 0, .int .i64 0, .int .i64 0, .slice none 0 0] 39)).frozen? ⟨w3.heap.size, o, none⟩ = false) := Lib.hid (alloc_frozen (w := w3) (cs := #[.int .i64 0, .int .i64 0, .int .i64 0, .int .i64 0, .slice none 0 0]) (e := 39)); have ln : w3.heap.size < (w3.alloc (.cells #[.int .i64 0, .int .i64 0, .int .i64 0, .int .i64 0, .slice none 0 0] 39)).heap.size := alloc_lt; refine (Tb.out (w3.alloc (.cells #[.int .i64 0, .int .i64 0, .int .i64 0, .int .i64 0, .slice none 0 0] 39)) (HB2.out.trans (Below.mono C3a hww))).mono ?_; rintro e w4 ⟨A4, c4, rfl, o4, hb4⟩; dsimp only; have C4 : Below w22.heap.size w22 w4 := Below.trans C3a (Below.mono hb4 (Below.size C3a)); have s4 := Below.size C4; have O4 := Lib.hid o4; have Z4 := Lib.hid (Row.below Zn.out hb4 ln); have F4 := Lib.hid (frozen_below Fn.out hb4 ln); have l4 := Nat.lt_of_lt_of_le ln (Below.size hb4); have O3 := Lib.hid (OwnD.below O3b.out hb4); clear o4 hb4)) | (refine (Ta.out _ HBa.out).mono ?_; rintro e w3 ⟨A3, c3, rfl, o3, hb3⟩; dsimp only; have C3 : Below w22.heap.size w22 w3 := Below.trans Ba (Below.mono hb3 (Below.size Ba)); have O3 := Lib.hid o3; have s3 := Below.size C3; have Z3 := Lib.hid (Row.below HZ1.out hb3 l1); have F3 := Lib.hid (frozen_below HF1.out hb3 l1); have l3 : w22.heap.size < w3.heap.size := Nat.lt_of_lt_of_le l1 (Below.size hb3); obtain ⟨k30, k31, k32, k33, k34⟩ := (Row.belowK HRa.out C3 lA).five; obtain ⟨j30, j31, j32, j33, j34⟩ := (Row.belowK HRb.out C3 lB).five; have C3n : Below w22.heap.size w22 (w3.alloc (.cells #[.int .i64 0, .int .i64 0, .int .i64 0, .int .i64 0, .slice none 0 0] 39)) := Below.alloc C3 s3 _; obtain ⟨i30, i31, i32, i33, i34⟩ := (Row.belowK HRb.out C3n lB).five; clear o3 hb3 C3n) | (refine (Ta.out _ HBd.out).mono ?_; rintro e w3 ⟨A3, c3, rfl, o3, hb3⟩; dsimp only; have C3 : Below w22.heap.size w22 w3 := Below.trans Bd (Below.mono hb3 (Below.size Bd)); have O3 := Lib.hid o3; have s3 := Below.size C3; obtain ⟨k30, k31, k32, k33, k34⟩ := (Row.belowK HRa.out C3 lA).five; obtain ⟨j30, j31, j32, j33, j34⟩ := (Row.belowK HRb.out C3 lB).five; have C3n : Below w22.heap.size w22 (w3.alloc (.cells #[.int .i64 0, .int .i64 0, .int .i64 0, .int .i64 0, .slice none 0 0] 39)) := Below.alloc C3 s3 _; obtain ⟨i30, i31, i32, i33, i34⟩ := (Row.belowK HRb.out C3n lB).five; clear o3 hb3 C3n)))
    all_goals clear k0 k1 k2 k3 k4 j0 j1 j2 j3 j4 n0 n1 n2 n3 n4 m0 m1 m2 m3 m4 k30 k31 k32 k33 k34 j30 j31 j32 j33 j34 i30 i31 i32 i33 i34 HRa HRb HBd HBa HZ1 HF1 Ba Bd HB2 lA lB hww
    all_goals (go_wp2_with fail)
    all_goals go_meet
    all_goals (first | (have t0 := Z5; clear t0; refine cut_set5 C5 O5.out Z5.out ?_ ?_ l5 <;> first | exact Nat.le_refl _ | exact s3 | exact s4 | exact l4 | exact ln) | exact cut_end C5 O5.out (by first | exact s4 | exact Nat.le_trans s4 (Nat.le_of_lt alloc_lt)))
  case rest =>
  obtain ⟨gw26, A_w26, c_w26, Bow26, Eow26, rfl, rfl, rfl, hb_w26, R_w26, glw26, ghw26, o_w26, olw26, ohw26, odw26⟩ := hcut
  generalize wc = w26 at *
  clear k0 k1 k2 k3 k4 j0 j1 j2 j3 j4 n0 n1 n2 n3 n4 m0 m1 m2 m3 m4 HRa HRb HBd HBa HZ1 HF1 Ba Bd HB2 lA lB hww hwz l1
  have z_w26 : w22.heap.size ≤ w26.heap.size := hb_w26.size
  have B_w26 : Below w.heap.size w w26 := B_w22.trans (hb_w26.mono (by omega))
  have Ra_w26 := Ra_w22.below hb_w26 (by omega)
  have Rb_w26 := Rb_w22.below hb_w26 (by omega)
  have R6_w26 := R6_w22.below hb_w26 (by omega)
  have R9_w26 := R9_w22.below hb_w26 (by omega)
  have R10_w26 := R10_w22.below hb_w26 (by omega)
  have R11_w26 := R11_w22.below hb_w26 (by omega)
  have O6_w26 := O6_w22.below hb_w26
  have O9_w26 := O9_w22.below hb_w26
  have O10_w26 := O10_w22.below hb_w26
  have O11_w26 := O11_w22.below hb_w26
  clear B_w22 Ra_w22 Rb_w22 R6_w22 R9_w22 R10_w22 R11_w22 O6_w22 O9_w22 O10_w22 O11_w22
  obtain ⟨k0, k1, k2, k3, k4⟩ := R_w26.five
  obtain ⟨j0, j1, j2, j3, j4⟩ := R6_w26.five
  go_wp2_with (fail)
  refine (eqDsc f _ _ _ _ w26 o_w26.1 O6_w26.1 (by omega)).mono ?_; rintro e w27 ⟨rfl, hb_w27⟩
  clear k0 k1 k2 k3 k4
  clear j0 j1 j2 j3 j4
  have z_w27 : w26.heap.size ≤ w27.heap.size := hb_w27.size
  have B_w27 : Below w.heap.size w w27 := B_w26.trans (hb_w27.mono (by omega))
  have Ra_w27 := Ra_w26.below hb_w27 (by omega)
  have Rb_w27 := Rb_w26.below hb_w27 (by omega)
  have R6_w27 := R6_w26.below hb_w27 (by omega)
  have R9_w27 := R9_w26.below hb_w27 (by omega)
  have R10_w27 := R10_w26.below hb_w27 (by omega)
  have R11_w27 := R11_w26.below hb_w27 (by omega)
  have R17_w27 := R_w26.below hb_w27 (by omega)
  have O6_w27 := O6_w26.below hb_w27
  have O9_w27 := O9_w26.below hb_w27
  have O10_w27 := O10_w26.below hb_w27
  have O11_w27 := O11_w26.below hb_w27
  have O17_w27 := o_w26.below hb_w27
  clear B_w26 Ra_w26 Rb_w26 R6_w26 R9_w26 R10_w26 R11_w26 R_w26 O6_w26 O9_w26 O10_w26 O11_w26 o_w26
  obtain ⟨k0, k1, k2, k3, k4⟩ := R11_w27.five
  go_wp2_with (fail)
  refine (heldDsc f _ 1 _ _ w27 O11_w27 (by omega) (by omega) (by omega) ⟨_, _, rfl⟩).mono ?_; rintro e w28 ⟨rfl, hb_w28⟩
  clear k0 k1 k2 k3 k4
  have z_w28 : w27.heap.size ≤ w28.heap.size := hb_w28.size
  have B_w28 : Below w.heap.size w w28 := B_w27.trans (hb_w28.mono (by omega))
  have Ra_w28 := Ra_w27.below hb_w28 (by omega)
  have Rb_w28 := Rb_w27.below hb_w28 (by omega)
  have R6_w28 := R6_w27.below hb_w28 (by omega)
  have R9_w28 := R9_w27.below hb_w28 (by omega)
  have R10_w28 := R10_w27.below hb_w28 (by omega)
  have R11_w28 := R11_w27.below hb_w28 (by omega)
  have R17_w28 := R17_w27.below hb_w28 (by omega)
  have O6_w28 := O6_w27.below hb_w28
  have O9_w28 := O9_w27.below hb_w28
  have O10_w28 := O10_w27.below hb_w28
  have O11_w28 := O11_w27.below hb_w28
  have O17_w28 := O17_w27.below hb_w28
  clear B_w27 Ra_w27 Rb_w27 R6_w27 R9_w27 R10_w27 R11_w27 R17_w27 O6_w27 O9_w27 O10_w27 O11_w27 O17_w27
  go_wp2
  go_ret
  exact ⟨rfl, B_w28⟩
end Go.Proofs.Ytignjjkldmninaa
