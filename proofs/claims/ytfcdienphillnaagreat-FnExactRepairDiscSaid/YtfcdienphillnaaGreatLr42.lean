/- A disc repaired, the reference: the walk. -/
import Derived.Test.YtfcdienphillnaaGreatLr36
namespace Go.Proofs.YtfcdienphillnaaGreat
set_option linter.unusedVariables false
set_option linter.unusedSimpArgs false
open Go.RowKit
theorem row_box {be : Nat} {w : World} {a b c d : Value} (h : EvBox be w a b c d) : Row w be [a, b, c, d] := fun i v hi => by
  rcases i with _ | _ | _ | _ | i
  · simp at hi; subst hi; exact h.c0
  · simp at hi; subst hi; exact h.c1
  · simp at hi; subst hi; exact h.c2
  · simp at hi; subst hi; exact h.c3
  · simp at hi
set_option maxRecDepth 20000 in
set_option maxHeartbeats 8000000 in
theorem rep_s (B be : Nat) (e : Evd) (va vb vc vd : Value) (z : Dsc) (P m T N : Nat) (F : EvF e z P m T) (hN : T * P = N) (w : World) (hx : EvBox be w va vb vc vd) (h : EvOwn B w e va vb vc vd) :
    Calls Tryz.prog 61 #[.pointer (some ⟨be, 0, none⟩)] w fun r w' => ∃ x y K, r = .returned (.tuple #[.agg #[.int .i64 z.cyl, .int .i64 z.heads, .int .i64 (P : Int), .int .i64 z.size, x], .agg #[y]]) ∧ SecOwn w.heap.size w' x (rpS e (zSec m) P N N N) ∧ (∀ g, x.ownBlock = some g → g < K) ∧ w.heap.size ≤ K ∧ OwnL Src.cells 3 83 K w' y (rpY e (zSec m) P N) ∧ Below w.heap.size w w' := by
  obtain ⟨r0, ri, rz0, rz1, rz2⟩ := info_parts src_info
  obtain ⟨i0, hi, hz0', hz1', hz2'⟩ := info_parts icell_info
  have H0 := Lib.hid h
  have HF := Lib.hid F
  have hP1 := F.p1
  have hP8 := F.p8
  have hT1 := F.t1
  have hT16 := F.t16
  have hm2 := F.m2
  have hN128 : N ≤ 128 := by rw [← hN]; exact Nat.mul_le_mul hT16 hP8
  have hN1 : 1 ≤ N := by rw [← hN]; exact Nat.mul_le_mul hT1 hP1
  have HT := Lib.hid F.tt
  have HZ := Lib.hid F.per
  have hds := h.ds
  have hz0 := F.z0
  obtain ⟨A, n, B', kk, C, ci, D, cj, rfl, rfl, rfl, rfl⟩ := h.shape
  obtain ⟨A', c', e', hA⟩ := hds
  injection e' with e1 _ e2
  subst e1 e2
  have hl1 : 1 ≤ e.ds.length := F.d1
  obtain ⟨gd, rfl, _, hgd, hcd⟩ := hA.resolve_left (by intro h0; rw [h0] at hl1; simp at hl1)
  obtain ⟨bv, o1, o2⟩ := hcd 0 z hz0
  have HSZ : Hid (szN z.size = m) := Lib.hid F.siz.symm
  have hbe : be < w.heap.size := World.block_lt_of_cell? w _ hx.c0
  have RE0 := row_box hx
  obtain ⟨R2, R3, F3, HBZ, zz⟩ := boxes2 w #[.int .i64 0, .int .i64 0, .int .i64 0, .int .i64 0, .slice none 0 0] #[.slice none 0 0] 43 47
  have F2 : ∀ o, (((w.alloc (.cells #[.int .i64 0, .int .i64 0, .int .i64 0, .int .i64 0, .slice none 0 0] 43)).alloc (.cells #[.slice none 0 0] 47))).frozen? ⟨w.heap.size, o, none⟩ = false := fun o => frozen_below (frozen_alloc w _ _) (Below.alloc (Below.refl _ _) (Nat.le_refl _) _) (by simp) o
  have RE := RE0.below HBZ hbe
  have e0 := RE 0 _ rfl
  have q0 : (((w.alloc (.cells #[.int .i64 0, .int .i64 0, .int .i64 0, .int .i64 0, .slice none 0 0] 43)).alloc (.cells #[.slice none 0 0] 47))).cell? ⟨gd, 0, none⟩ = some (.int .i64 z.cyl) := (HBZ.cell (p := ⟨gd, 0, none⟩) hgd).trans (o2 0 _ rfl)
  have q1 : (((w.alloc (.cells #[.int .i64 0, .int .i64 0, .int .i64 0, .int .i64 0, .slice none 0 0] 43)).alloc (.cells #[.slice none 0 0] 47))).cell? ⟨gd, 1, none⟩ = some (.int .i64 z.heads) := (HBZ.cell (p := ⟨gd, 1, none⟩) hgd).trans (o2 1 _ rfl)
  have q2 : (((w.alloc (.cells #[.int .i64 0, .int .i64 0, .int .i64 0, .int .i64 0, .slice none 0 0] 43)).alloc (.cells #[.slice none 0 0] 47))).cell? ⟨gd, 2, none⟩ = some (.int .i64 (P : Int)) := by rw [← HZ.out]; exact (HBZ.cell (p := ⟨gd, 2, none⟩) hgd).trans (o2 2 _ rfl)
  have q3 : (((w.alloc (.cells #[.int .i64 0, .int .i64 0, .int .i64 0, .int .i64 0, .slice none 0 0] 43)).alloc (.cells #[.slice none 0 0] 47))).cell? ⟨gd, 3, none⟩ = some (.int .i64 z.size) := (HBZ.cell (p := ⟨gd, 3, none⟩) hgd).trans (o2 3 _ rfl)
  have hbA : Below (((w.alloc (.cells #[.int .i64 0, .int .i64 0, .int .i64 0, .int .i64 0, .slice none 0 0] 43)).alloc (.cells #[.slice none 0 0] 47))).heap.size ((w.alloc (.cells #[.int .i64 0, .int .i64 0, .int .i64 0, .int .i64 0, .slice none 0 0] 43)).alloc (.cells #[.slice none 0 0] 47)) (((w.alloc (.cells #[.int .i64 0, .int .i64 0, .int .i64 0, .int .i64 0, .slice none 0 0] 43)).alloc (.cells #[.slice none 0 0] 47)).alloc (.cells #[.int .i64 0, .int .i64 0, .int .i64 0, .int .i64 0, .slice none 0 0] 43)) := Below.alloc (Below.refl _ _) (Nat.le_refl _) _
  have HK : Hid (∀ w', Below (((w.alloc (.cells #[.int .i64 0, .int .i64 0, .int .i64 0, .int .i64 0, .slice none 0 0] 43)).alloc (.cells #[.slice none 0 0] 47))).heap.size ((w.alloc (.cells #[.int .i64 0, .int .i64 0, .int .i64 0, .int .i64 0, .slice none 0 0] 43)).alloc (.cells #[.slice none 0 0] 47)) w' → w'.cell? ⟨gd, 0, none⟩ = some (.int .i64 z.cyl) ∧ w'.cell? ⟨gd, 1, none⟩ = some (.int .i64 z.heads) ∧ w'.cell? ⟨gd, 2, none⟩ = some (.int .i64 (P : Int)) ∧ w'.cell? ⟨gd, 3, none⟩ = some (.int .i64 z.size)) := Lib.hid fun w' hb => ⟨(hb.cell (p := ⟨gd, 0, none⟩) (by rw [zz]; show gd < _; omega)).trans q0, (hb.cell (p := ⟨gd, 1, none⟩) (by rw [zz]; show gd < _; omega)).trans q1, (hb.cell (p := ⟨gd, 2, none⟩) (by rw [zz]; show gd < _; omega)).trans q2, (hb.cell (p := ⟨gd, 3, none⟩) (by rw [zz]; show gd < _; omega)).trans q3⟩
  have p0 := (hbA.cell (p := ⟨gd, 0, none⟩) (by rw [zz]; show gd < _; omega)).trans q0
  have p1 := (hbA.cell (p := ⟨gd, 1, none⟩) (by rw [zz]; show gd < _; omega)).trans q1
  have p2 := (hbA.cell (p := ⟨gd, 2, none⟩) (by rw [zz]; show gd < _; omega)).trans q2
  have p3 := (hbA.cell (p := ⟨gd, 3, none⟩) (by rw [zz]; show gd < _; omega)).trans q3
  have hl1' : (0 : Int) < (e.ds.length : Int) := by omega
  have hgeo : 0 ≤ z.size ∧ z.size ≤ 2 := by obtain ⟨_, _, _, g4⟩ := geo_parts (disc_geo F.zok); exact g4
  have HNW := Lib.hid (fun w' => new_s z.cyl z.heads (P : Int) z.size T N w' HT.out.symm (by rw [← hN]; rfl) (by omega) (by omega) hgeo)
  rw [HSZ.out] at HNW
  have HTi := Lib.hid hN
  have RE4 := Lib.hid RE
  have R24 := Lib.hid R2
  have R34 := Lib.hid R3
  have F24 := Lib.hid F2
  have F34 := Lib.hid F3
  have HB4 := Lib.hid HBZ
  clear hbA RE RE0 R2 R3 F2 F3 HBZ o1 o2 hcd hA h F hz0 hN hx
  have HNB : Hid (∀ w' : World, Calls Tryz.prog 97 #[.int .i64 z.cyl, .int .i64 z.heads, .int .i64 (P : Int), .int .i64 z.size] w' fun r w5 => ∃ g c, r = .returned (.agg #[.int .i64 z.cyl, .int .i64 z.heads, .int .i64 (P : Int), .int .i64 z.size, .slice (some ⟨g, 0, none⟩) N c]) ∧ SecOwn w'.heap.size w5 (.slice (some ⟨g, 0, none⟩) N c) (List.replicate N (zSec m)) ∧ w'.heap.size ≤ g ∧ g < w5.heap.size ∧ Below w'.heap.size w' w5) := Lib.hid fun w' => by
    refine (HNW.out w').mono ?_
    rintro r w5 ⟨x5, rfl, ho5, hb5⟩
    obtain ⟨X5, c, rfl, hX5⟩ := OwnL.shape ho5
    rw [List.length_replicate] at ho5 ⊢
    obtain ⟨g, rfl, hg0, hg⟩ := hX5.resolve_left (fun h0 => by have := congrArg List.length h0; simp at this; omega)
    exact ⟨g, c, rfl, ho5, hg0, hg, hb5⟩
  have HNA : Hid (Calls Tryz.prog 97 #[.int .i64 z.cyl, .int .i64 z.heads, .int .i64 (P : Int), .int .i64 z.size] (((w.alloc (.cells #[.int .i64 0, .int .i64 0, .int .i64 0, .int .i64 0, .slice none 0 0] 43)).alloc (.cells #[.slice none 0 0] 47)).drew.alloc (.cells #[.int .i64 0, .int .i64 0, .int .i64 0, .int .i64 0, .slice none 0 0] 43)) fun r w5 => ∃ g c, r = .returned (.agg #[.int .i64 z.cyl, .int .i64 z.heads, .int .i64 (P : Int), .int .i64 z.size, .slice (some ⟨g, 0, none⟩) N c]) ∧ SecOwn (w.heap.size + 3) w5 (.slice (some ⟨g, 0, none⟩) N c) (List.replicate N (zSec m)) ∧ w.heap.size + 3 ≤ g ∧ g < w5.heap.size ∧ w.heap.size + 2 ≤ w5.heap.size ∧ Below (((w.alloc (.cells #[.int .i64 0, .int .i64 0, .int .i64 0, .int .i64 0, .slice none 0 0] 43)).alloc (.cells #[.slice none 0 0] 47))).heap.size ((w.alloc (.cells #[.int .i64 0, .int .i64 0, .int .i64 0, .int .i64 0, .slice none 0 0] 43)).alloc (.cells #[.slice none 0 0] 47)) w5 ∧ Row w5 (w.heap.size + 2) [.int .i64 0, .int .i64 0, .int .i64 0, .int .i64 0, .slice none 0 0] ∧ ∀ o, w5.frozen? ⟨w.heap.size + 2, o, none⟩ = false) := Lib.hid (by
    refine (HNB.out _).mono ?_
    rintro r w5 ⟨g, c, rfl, h1, h2, h3, h4⟩
    obtain ⟨h5, h6⟩ := box_at h4 zz
    have hs : ((((w.alloc (.cells #[.int .i64 0, .int .i64 0, .int .i64 0, .int .i64 0, .slice none 0 0] 43)).alloc (.cells #[.slice none 0 0] 47)).drew.alloc (.cells #[.int .i64 0, .int .i64 0, .int .i64 0, .int .i64 0, .slice none 0 0] 43))).heap.size = w.heap.size + 3 := by simp
    have hb0 : Below (((w.alloc (.cells #[.int .i64 0, .int .i64 0, .int .i64 0, .int .i64 0, .slice none 0 0] 43)).alloc (.cells #[.slice none 0 0] 47))).heap.size ((w.alloc (.cells #[.int .i64 0, .int .i64 0, .int .i64 0, .int .i64 0, .slice none 0 0] 43)).alloc (.cells #[.slice none 0 0] 47)) (((w.alloc (.cells #[.int .i64 0, .int .i64 0, .int .i64 0, .int .i64 0, .slice none 0 0] 43)).alloc (.cells #[.slice none 0 0] 47)).drew.alloc (.cells #[.int .i64 0, .int .i64 0, .int .i64 0, .int .i64 0, .slice none 0 0] 43)) := Below.alloc (Below.refl (((w.alloc (.cells #[.int .i64 0, .int .i64 0, .int .i64 0, .int .i64 0, .slice none 0 0] 43)).alloc (.cells #[.slice none 0 0] 47))).heap.size ((w.alloc (.cells #[.int .i64 0, .int .i64 0, .int .i64 0, .int .i64 0, .slice none 0 0] 43)).alloc (.cells #[.slice none 0 0] 47))).drew (Nat.le_refl _) _
    have h7 := hb0.trans (h4.mono hb0.size)
    rw [hs] at h1 h2
    exact ⟨g, c, rfl, h1, h2, h3, by omega, h7, h5, h6⟩)
  have HNC : Hid (Calls Tryz.prog 97 #[.int .i64 z.cyl, .int .i64 z.heads, .int .i64 (P : Int), .int .i64 z.size] (((w.alloc (.cells #[.int .i64 0, .int .i64 0, .int .i64 0, .int .i64 0, .slice none 0 0] 43)).alloc (.cells #[.slice none 0 0] 47))).drew fun r w5 => ∃ g c, r = .returned (.agg #[.int .i64 z.cyl, .int .i64 z.heads, .int .i64 (P : Int), .int .i64 z.size, .slice (some ⟨g, 0, none⟩) N c]) ∧ SecOwn (w.heap.size + 2) w5 (.slice (some ⟨g, 0, none⟩) N c) (List.replicate N (zSec m)) ∧ w.heap.size + 2 ≤ g ∧ g < w5.heap.size ∧ w.heap.size + 2 ≤ w5.heap.size ∧ Below (((w.alloc (.cells #[.int .i64 0, .int .i64 0, .int .i64 0, .int .i64 0, .slice none 0 0] 43)).alloc (.cells #[.slice none 0 0] 47))).heap.size ((w.alloc (.cells #[.int .i64 0, .int .i64 0, .int .i64 0, .int .i64 0, .slice none 0 0] 43)).alloc (.cells #[.slice none 0 0] 47)) w5) := Lib.hid (by
    refine (HNB.out _).mono ?_
    rintro r w5 ⟨g, c, rfl, h1, h2, h3, h4⟩
    have hs : ((((w.alloc (.cells #[.int .i64 0, .int .i64 0, .int .i64 0, .int .i64 0, .slice none 0 0] 43)).alloc (.cells #[.slice none 0 0] 47))).drew).heap.size = w.heap.size + 2 := zz
    have h7 := (Below.refl (((w.alloc (.cells #[.int .i64 0, .int .i64 0, .int .i64 0, .int .i64 0, .slice none 0 0] 43)).alloc (.cells #[.slice none 0 0] 47))).heap.size ((w.alloc (.cells #[.int .i64 0, .int .i64 0, .int .i64 0, .int .i64 0, .slice none 0 0] 43)).alloc (.cells #[.slice none 0 0] 47))).drew.trans h4
    rw [hs] at h1 h2
    exact ⟨g, c, rfl, h1, h2, h3, by omega, h7⟩)
  have HFIN : Hid (∀ (wx : World) (bd g c : Nat), Below (((w.alloc (.cells #[.int .i64 0, .int .i64 0, .int .i64 0, .int .i64 0, .slice none 0 0] 43)).alloc (.cells #[.slice none 0 0] 47))).heap.size ((w.alloc (.cells #[.int .i64 0, .int .i64 0, .int .i64 0, .int .i64 0, .slice none 0 0] 43)).alloc (.cells #[.slice none 0 0] 47)) wx → Row wx bd [.int .i64 z.cyl, .int .i64 z.heads, .int .i64 (P : Int), .int .i64 z.size, .slice (some ⟨g, 0, none⟩) N c] → SecOwn w.heap.size wx (.slice (some ⟨g, 0, none⟩) N c) (List.replicate N (zSec m)) → w.heap.size + 2 ≤ bd → w.heap.size + 2 ≤ g → g ≠ bd → bd < wx.heap.size → g < wx.heap.size → RepB w be [.slice (some ⟨gd, 0, none⟩) e.ds.length n, .slice B' e.cr.length kk, .slice C e.p.length ci, .slice D e.q.length cj] [.int .i64 z.cyl, .int .i64 z.heads, .int .i64 (P : Int), .int .i64 z.size, .slice (some ⟨g, 0, none⟩) N c] w.heap.size g bd N c wx (rpS e (zSec m) P N 0 0)) := Lib.hid fun wx bd g c hb hr hs h1 h2 h3 h4 h5 =>
    ⟨HB4.out.trans (hb.mono (by rw [zz]; omega)), RE4.out.below hb (by rw [zz]; omega), R24.out.below hb (by rw [zz]; omega), frozen_below F24.out hb (by rw [zz]; omega), R34.out.below hb (by rw [zz]; omega), frozen_below F34.out hb (by rw [zz]; omega), hr, by rw [rpS_zero]; exact hs, by omega, Nat.le_refl _, by omega, h3, by omega, h4, h5⟩
  clear HNB
  clear HNW
  go_enter Tryz.func61, Tryz.ntmps61
  go_upto_region 2 with fail
  go_cut [5] from 22 (fun s5 wx => ∃ bd g c, s5 = .pointer (some ⟨bd, 0, none⟩) ∧ Hid (RepB w be [.slice (some ⟨gd, 0, none⟩) e.ds.length n, .slice B' e.cr.length kk, .slice C e.p.length ci, .slice D e.q.length cj] [.int .i64 z.cyl, .int .i64 z.heads, .int .i64 (P : Int), .int .i64 z.size, .slice (some ⟨g, 0, none⟩) N c] w.heap.size g bd N c wx (rpS e (zSec m) P N 0 0)))
  case first =>
    go_region_held3 (fun w' => w'.cell? ⟨gd, 0, none⟩ = some (.int .i64 z.cyl) ∧ w'.cell? ⟨gd, 1, none⟩ = some (.int .i64 z.heads) ∧ w'.cell? ⟨gd, 2, none⟩ = some (.int .i64 (P : Int)) ∧ w'.cell? ⟨gd, 3, none⟩ = some (.int .i64 z.size))
      (first | exact HK.out _ HB5 | exact HK.out _ (by repeat (first | exact Below.refl _ _ | refine Below.alloc ?_ (by first | omega | (simp; done) | (simp; omega)) _ | apply Below.drew | apply below_drewN | refine Below.setCell ?_ (by first | omega | (simp; done) | (simp; omega)) _ | refine Below.trans ?_ (Below.mono (by assumption) (by first | omega | (simp; done) | (simp; omega))))))
      (first
      | (go_at_call 97; first
        | (refine HNA.out.mono ?_; rintro r w5 ⟨g, c, rfl, h1, h2, h3, z5, HB5, hR, hF⟩; have y0 := hR 0 _ rfl; have y1 := hR 1 _ rfl; have y2 := hR 2 _ rfl; have y3 := hR 3 _ rfl; have y4 := hR 4 _ rfl; have f0 := hF 0; have f1 := hF 1; have f2 := hF 2; have f3 := hF 3; have f4 := hF 4; have HRZ := Lib.hid hR; have HO5 := Lib.hid h1; clear hR hF h1)
        | (refine HNC.out.mono ?_; rintro r w5 ⟨g, c, rfl, h1, h2, h3, z5, HB5⟩; have HO5 := Lib.hid h1; clear h1)))
    · (go_wp2_with fail); go_meet
      refine ⟨w5.heap.size, g, c, rfl, Lib.hid (HFIN.out _ _ _ _ (HB5.alloc (by rw [zz]; exact z5) _) (Row.alloc w5 _ _) (OwnL.base (OwnL.alloc HO5.out _) (by omega)) z5 h2 (by omega) (by simp) (by simp; omega))⟩
    · (go_wp2_with fail); go_meet
      refine ⟨w.heap.size + 2, g, c, rfl, Lib.hid (HFIN.out _ _ _ _ (by repeat (first | exact Below.refl _ _ | refine Below.alloc ?_ (by first | omega | (simp; done) | (simp; omega)) _ | apply Below.drew | apply below_drewN | refine Below.setCell ?_ (by first | omega | (simp; done) | (simp; omega)) _ | refine Below.trans ?_ (Below.mono (by assumption) (by first | omega | (simp; done) | (simp; omega))))) (set5_row HRZ.out _ _ _ _ _) (OwnL.base (far_set (far_set (far_set (far_set (far_set HO5.out (Nat.lt_succ_self _)) (Nat.lt_succ_self _)) (Nat.lt_succ_self _)) (Nat.lt_succ_self _)) (Nat.lt_succ_self _)) (by omega)) (Nat.le_refl _) (by omega) (by omega) (by simp only [setCell_size]; omega) (by simp only [setCell_size]; omega))⟩
  case rest =>
    obtain ⟨bd, g, c, rfl, HB⟩ := hcut
    obtain ⟨HORD0, HRW0⟩ := HB.out.start
    have HORD := Lib.hid HORD0
    have HRW := Lib.hid HRW0
    clear HORD0 HRW0 HB HNA HNC HFIN HK RE4 R24 R34 F24 F34 HB4 e0 q0 q1 q2 q3 p0 p1 p2 p3 zz hgeo
    go_wp2_with (fail)
    generalize ((wc.alloc (.cells #[] 83)).alloc (.cells #[.slice (some ⟨wc.heap.size, 0, none⟩) 0 0] 47)) = w6 at *
    generalize wc.heap.size = K at *
    have hord := HORD.out
    have hbcl := HRW.out.lt
    have hw16 : IntKind.i64.wrap (T : Int) = (T : Int) := by rw [IntKind.wrap_i64]; omega
    have hTm : z.cyl * z.heads = (T : Int) := HT.out.symm
    have hone : ∀ b : Src, ∀ u ∈ Src.cells b, u.oneCell' = true := by intro b; simp [Src.cells, Value.oneCell']
    have HSRC := Lib.hid (fun (k : Nat) (w' : World) (hb : Below w.heap.size w w') (hr : Row w' be [.slice (some ⟨gd, 0, none⟩) e.ds.length n, .slice B' e.cr.length kk, .slice C e.p.length ci, .slice D e.q.length cj]) (hk : k < N) => fir_s B be e _ _ _ _ k w' ⟨hr 0 _ rfl, hr 1 _ rfl, hr 2 _ rfl, hr 3 _ rfl⟩ (H0.out.below hb) HF.out.d5 (fun d hd => by rw [HF.out.dss d hd, HTi.out]; exact hk) (by rw [HF.out.crl, HTi.out]; exact hk) (by rw [HF.out.crl, HTi.out]; omega) m HF.out.dm (by omega) HF.out.m1 HF.out.cr)
    go_loopw [7] (fun ii wx => ∃ (t : Nat) (vs : Value), t ≤ T ∧ ii = .int .i64 t ∧ Hid (RepW w be [.slice (some ⟨gd, 0, none⟩) e.ds.length n, .slice B' e.cr.length kk, .slice C e.p.length ci, .slice D e.q.length cj] [.int .i64 z.cyl, .int .i64 z.heads, .int .i64 (P : Int), .int .i64 z.size, .slice (some ⟨g, 0, none⟩) N c] w.heap.size g bd (K + 1) K N c wx vs (rpS e (zSec m) P N (t * P) (t * P)) (rpY e (zSec m) P (t * P)))) (fun ii _ => T - (intOf ii).toNat)
    case atStart => exact ⟨0, _, by omega, rfl, Lib.hid (by rw [Nat.zero_mul]; exact HRW.out)⟩
    case round =>
      clear HRW hbcl
      obtain ⟨t, vs, ht, rfl, HW⟩ := hrel
      have d0 := HW.out.rd 0 _ rfl
      have d1 := HW.out.rd 1 _ rfl
      by_cases hltt : t < T
      · have hoN : t * P + P ≤ N := by
          have := Nat.mul_le_mul_right P (show t + 1 ≤ T by omega)
          rw [Nat.add_mul, Nat.one_mul, HTi.out] at this
          exact this
        obtain ⟨o, ho⟩ : ∃ o, t * P = o := ⟨_, rfl⟩
        have HO := Lib.hid ho
        have hti : (t : Int) < (T : Int) := by omega
        have h3 : (t : Int) * (P : Int) = (o : Int) := by rw [← ho]; rfl
        have hw1 : IntKind.i64.wrap (o : Int) = (o : Int) := by rw [IntKind.wrap_i64]; omega
        rw [ho] at HW hoN
        clear ho
        have hlt0 := HW.out.lt
        have hvs : ∀ k, vs.ownBlock = some k → k < wr.heap.size := fun k hk => (World.ownsRow.lt HW.out.src k hk).2
        generalize hwo : wr = wo at *
        clear hwo
        obtain ⟨n1, hn1⟩ : ∃ n1, wo.heap.size = n1 := ⟨_, rfl⟩
        have Bn : Below wo.heap.size wo ((wo.alloc (.cells #[] 2)).alloc (.cells #[] 83)) := Below.alloc (Below.alloc (Below.refl _ _) (Nat.le_refl _) _) (by simp) _
        have HW2 := Lib.hid (HW.out.below hord Bn)
        have HI2 : Hid (RpIn n1 ((wo.alloc (.cells #[] 2)).alloc (.cells #[] 83)) (.slice (some ⟨n1, 0, none⟩) 0 0) (.slice (some ⟨n1 + 1, 0, none⟩) 0 0) (rpLE e o 0) (rpFd e o 0)) := Lib.hid (by
          have h1 := OwnL.of_empty (f := icell) (z := 1) (e := 2) wo (Nat.le_refl _)
          have h2 := OwnL.of_empty (f := Src.cells) (z := 3) (e := 83) (B := wo.heap.size) (wo.alloc (.cells #[] 2)) (by simp)
          have hz : (wo.alloc (.cells #[] 2)).heap.size = n1 + 1 := by simp [hn1]
          rw [hz] at h2
          rw [hn1] at h1 h2
          exact ⟨OwnL.below h1 (Below.alloc (Below.refl _ _) (Nat.le_refl _) _), h2, fun k hk e0 => by
            have e1 : some n1 = some k := hk
            have e2 : some (n1 + 1) = some k := e0
            injection e1 with e1; injection e2 with e2; omega, by simp; omega⟩)
        have hbn : K + 1 < n1 := by omega
        rw [hn1] at hvs
        have hz2 : n1 + 2 ≤ (((wo.alloc (.cells #[] 2)).alloc (.cells #[] 83))).heap.size := by simp; omega
        clear HW Bn hlt0
        go_wp2_with (fail)
        try rw [hn1]
        clear d0 d1 hn1
        generalize ((wo.alloc (.cells #[] 2)).alloc (.cells #[] 83)) = w2 at *
        go_loopw [10, 8, 9] (fun jj vl vf wx => ∃ (j : Nat), j ≤ P ∧ jj = .int .i64 j ∧ Hid (RepW w be [.slice (some ⟨gd, 0, none⟩) e.ds.length n, .slice B' e.cr.length kk, .slice C e.p.length ci, .slice D e.q.length cj] [.int .i64 z.cyl, .int .i64 z.heads, .int .i64 (P : Int), .int .i64 z.size, .slice (some ⟨g, 0, none⟩) N c] w.heap.size g bd (K + 1) K N c wx vs (rpS e (zSec m) P N o (o + j)) (rpY e (zSec m) P o)) ∧ Hid (RpIn n1 wx vl vf (rpLE e o j) (rpFd e o j))) (fun jj _ _ _ => P - (intOf jj).toNat)
        case atStart => exact ⟨0, by omega, rfl, HW2, HI2⟩
        case round =>
          clear HW2 HI2
          obtain ⟨j, hj, rfl, HW, HI⟩ := hrel
          have d2 := HW.out.rd 2 _ rfl
          by_cases hltj : j < P
          · obtain ⟨oj, hoj⟩ : ∃ oj, o + j = oj := ⟨_, rfl⟩
            have hcast : (o : Int) + (j : Int) = (oj : Int) := by omega
            have hw2 : IntKind.i64.wrap (oj : Int) = (oj : Int) := by rw [IntKind.wrap_i64]; omega
            have hjN : oj < N := by omega
            have hji : (j : Int) < (P : Int) := by omega
            obtain ⟨src, sd, ok, hfe⟩ : ∃ src sd ok, firE e oj = (src, sd, ok) := ⟨_, _, _, rfl⟩
            have hS0 := HSRC.out oj wr HW.out.bw HW.out.re hjN
            have hok : rpOk e oj = ok := by unfold rpOk; rw [hfe]
            have HY1 := Lib.hid (fun hh : ok = true => rpS_yes (e := e) (z := zSec m) (P := P) (N := N) (u := o) (j := oj) (by omega) hjN (hok.trans hh))
            have HY2 := Lib.hid (fun hh : ok = true => (rpFd_yes (e := e) (o := o) (n := j) (Lib.hid rfl) (by rw [hoj]; exact hok.trans hh)).out)
            have HY3 := Lib.hid (fun hh : ok = true => (flt_no (P := fun j => !rpOk e (o + j)) (n := j) (Lib.hid rfl) (by show (!rpOk e (o + j)) = false; rw [hoj, hok, hh]; rfl)).out)
            have HN1 := Lib.hid (fun hh : ok = false => rpS_no (e := e) (z := zSec m) (P := P) (N := N) (u := o) (j := oj) (by omega) (hok.trans hh))
            have HN2 := Lib.hid (fun hh : ok = false => (rpFd_no (e := e) (o := o) (n := j) (Lib.hid rfl) (by rw [hoj]; exact hok.trans hh)).out)
            have HN3 := Lib.hid (fun hh : ok = false => (flt_yes (P := fun j => !rpOk e (o + j)) (n := j) (Lib.hid rfl) (by show (!rpOk e (o + j)) = true; rw [hoj, hok, hh]; rfl)).out)
            rw [hoj] at HW HY2
            rw [hfe] at hS0 HY1 HY2
            obtain ⟨kd, sc, dm⟩ := src
            have HS1 : Hid (Calls Tryz.prog 98 #[.pointer (some ⟨be, 0, none⟩), .int .i64 oj] wr fun r w' => r = .returned (.tuple #[.agg #[.int .i64 kd, .int .i64 sc, .int .i64 dm], .string sd, .bool ok]) ∧ Below wr.heap.size wr w') := Lib.hid hS0
            have hoj' : o + (j + 1) = oj + 1 := by omega
            clear hS0 hfe hok hoj
            go_wp2_with (fail)
            refine HS1.out.mono ?_; rintro r w8 ⟨rfl, hb8⟩
            have HW8 := Lib.hid (HW.out.below hord hb8)
            have HI8 := Lib.hid (HI.out.below hb8)
            have hz8 := hb8.size
            have hlt8 := HW8.out.lt
            have hba : Below w8.heap.size w8 (w8.alloc (.cells #[.int .i64 kd, .int .i64 sc, .int .i64 dm] 83)) := Below.alloc (Below.refl _ _) (Nat.le_refl _) _
            have HW9 := Lib.hid (HW8.out.below hord hba)
            have HI9 := Lib.hid (HI8.out.below hba)
            have hz9 : ((w8.alloc (.cells #[.int .i64 kd, .int .i64 sc, .int .i64 dm] 83))).heap.size = w8.heap.size + 1 := by simp
            clear d2 HS1 hb8 HW HI HW8 HI8
            cases ok
            · rw [HN1.out rfl, ← hoj'] at HW9
              rw [HN2.out rfl] at HI9
              have hj1 := flt_len (fun i => !rpOk e (o + i)) j
              have hbl : Below ((w8.alloc (.cells #[.int .i64 kd, .int .i64 sc, .int .i64 dm] 83))).heap.size (w8.alloc (.cells #[.int .i64 kd, .int .i64 sc, .int .i64 dm] 83)) (((w8.alloc (.cells #[.int .i64 kd, .int .i64 sc, .int .i64 dm] 83))).alloc (.cells #[.int .i64 (j : Int)] 2)) := Below.alloc (Below.refl _ _) (Nat.le_refl _) _
              have HW10 := Lib.hid (HW9.out.below hord hbl)
              have HI10 := Lib.hid (HI9.out.below hbl)
              have RA := Row.alloc (w8.alloc (.cells #[.int .i64 kd, .int .i64 sc, .int .i64 dm] 83)) #[.int .i64 (j : Int)] 2
              have hz10 : n1 ≤ (((w8.alloc (.cells #[.int .i64 kd, .int .i64 sc, .int .i64 dm] 83))).alloc (.cells #[.int .i64 (j : Int)] 2)).heap.size := HI10.out.sz
              rw [hz9] at RA
              clear HN1 HN2 HY1 HY2 HY3 hba HW9 HI9 hbl
              go_wp2_with (at_builtin; refine stopQ ?_)
              intro _
              refine wpList_app1at icell 1 icell_len _ rfl _ _ _ rfl n1 2 i0 (.int .i64 0) 8 Tryz.underlying23 hi hz0' hz1' hz2' rfl (by decide) _ (rpLE e o j) rfl HI10.out.l _ 1 (j : Int) rfl RA (by simp [icell, Value.oneCell']) (by show (rpLE e o j).length + 1 ≤ 16777216; unfold rpLE; omega) (by omega) hz10 ?_
              intro v' w12 how hgr hat
              have HW12 := Lib.hid (HW10.out.hi hord hbn hvs hgr (fun k hk => HI10.out.lt.1 k hk))
              have HI12 := Lib.hid (HI10.out.appL hgr how hat)
              have HN4 : Hid (rpLE e o j ++ [(j : Int)] = rpLE e o (j + 1)) := Lib.hid (HN3.out (by first | rfl | trivial))
              rw [HN4.out] at HI12
              clear HN3 HN4 HW10 HI10 RA how hgr hat
              go_wp2_with (fail)
              go_roundw
              case rel => exact ⟨j + 1, by omega, by go_num, HW12, HI12⟩
              case measure => simp [intOf]; omega
            · have HY4 : Hid (rpLE e o j = rpLE e o (j + 1)) := Lib.hid (HY3.out (by first | rfl | trivial))
              rw [HY4.out] at HI9
              have HW10 := Lib.hid (HW9.out.setS hord rpS_len hjN (rpG sd))
              have HI10 := Lib.hid (HI9.out.low (gset (gset (World.grownBy.refl (w8.alloc (.cells #[.int .i64 kd, .int .i64 sc, .int .i64 dm] 83)) (some g)) _ _) _ _ : World.grownBy _ (((w8.alloc (.cells #[.int .i64 kd, .int .i64 sc, .int .i64 dm] 83)).setCell ⟨g, oj * 2, none⟩ (.string sd)).setCell ⟨g, oj * 2 + 1, none⟩ (.int .i64 1)) _) (by have := hord.o4g; omega))
              obtain ⟨q0, q1, fz⟩ := secs_at HW9.out.sec rpS_len (rpS_at hjN)
              have d4 := HW9.out.rd 4 _ rfl
              have hne : w8.heap.size ≠ g := by have := hord.o4g; omega
              have RB : Row (((w8.alloc (.cells #[.int .i64 kd, .int .i64 sc, .int .i64 dm] 83)).setCell ⟨g, oj * 2, none⟩ (.string sd)).setCell ⟨g, oj * 2 + 1, none⟩ (.int .i64 1)) w8.heap.size [.int .i64 kd, .int .i64 sc, .int .i64 dm] := ((Row.alloc w8 #[.int .i64 kd, .int .i64 sc, .int .i64 dm] 83).set_other _ hne).set_other _ hne
              have y0 := RB 0 _ rfl
              have y1 := RB 1 _ rfl
              have y2 := RB 2 _ rfl
              have hgi : (oj : Int) < (N : Int) := by omega
              have hbb : Below ((((w8.alloc (.cells #[.int .i64 kd, .int .i64 sc, .int .i64 dm] 83)).setCell ⟨g, oj * 2, none⟩ (.string sd)).setCell ⟨g, oj * 2 + 1, none⟩ (.int .i64 1))).heap.size (((w8.alloc (.cells #[.int .i64 kd, .int .i64 sc, .int .i64 dm] 83)).setCell ⟨g, oj * 2, none⟩ (.string sd)).setCell ⟨g, oj * 2 + 1, none⟩ (.int .i64 1)) (((((w8.alloc (.cells #[.int .i64 kd, .int .i64 sc, .int .i64 dm] 83)).setCell ⟨g, oj * 2, none⟩ (.string sd)).setCell ⟨g, oj * 2 + 1, none⟩ (.int .i64 1))).alloc (.cells #[.int .i64 kd, .int .i64 sc, .int .i64 dm] 83)) := Below.alloc (Below.refl _ _) (Nat.le_refl _) _
              have HW11 := Lib.hid (HW10.out.below hord hbb)
              have HI11 := Lib.hid (HI10.out.below hbb)
              have hz10 : ((((w8.alloc (.cells #[.int .i64 kd, .int .i64 sc, .int .i64 dm] 83)).setCell ⟨g, oj * 2, none⟩ (.string sd)).setCell ⟨g, oj * 2 + 1, none⟩ (.int .i64 1))).heap.size = w8.heap.size + 1 := by simp [setCell_size]
              have RA := Row.alloc (((w8.alloc (.cells #[.int .i64 kd, .int .i64 sc, .int .i64 dm] 83)).setCell ⟨g, oj * 2, none⟩ (.string sd)).setCell ⟨g, oj * 2 + 1, none⟩ (.int .i64 1)) #[.int .i64 kd, .int .i64 sc, .int .i64 dm] 83
              rw [hz10] at RA
              have hfl := rpFd_len (e := e) (o := o) j
              have hz11 := HI11.out.sz
              clear HN1 HN2 HN3 RB hba hbb HW9 HI9 HW10 HI10 HY3 HY4
              go_wp2_with (at_builtin; refine stopQ ?_)
              intro _
              refine wpList_app1at Src.cells 3 Src.len _ rfl _ _ _ rfl n1 83 r0 (.agg #[.int .i64 0, .int .i64 0, .int .i64 0]) 24 Tryz.underlying45 ri rz0 rz1 rz2 rfl (by decide) _ (rpFd e o j) rfl HI11.out.f _ 1 ⟨kd, sc, dm⟩ rfl RA (hone _) (by omega) (by omega) hz11 ?_
              intro v' w12 how hgr hat
              rw [HY2.out (by first | rfl | trivial)] at how
              have HW12 := HW11.out.hi hord hbn hvs hgr (fun k hk => HI11.out.lt.2 k hk)
              rw [HY1.out (by first | rfl | trivial), ← hoj'] at HW12
              have HWN := Lib.hid HW12
              have HIN := Lib.hid (HI11.out.appF hgr how hat)
              clear q0 q1 fz d4 y0 y1 y2 RA HW12 how hgr hat HW11 HI11 HY1 HY2 hz11
              go_wp2_with (fail)
              go_roundw
              case rel => exact ⟨j + 1, by omega, by go_num, HWN, HIN⟩
              case measure => simp [intOf]; omega
          · obtain rfl : P = j := by omega
            obtain ⟨pt, qt, hpt, hqt, hps, hqs⟩ := ev_pq HF.out hltt
            have hA := rpS_add (e := e) (z := zSec m) (P := P) (N := N) (t := t) (v := o + P) (by rw [HO.out]; omega) (by rw [HO.out]; exact hoN)
            rw [HO.out] at hA
            have HPP : Hid ((rpAdd e (rpS e (zSec m) P N o (o + P)) t o P (rpLE e o P)).2 = rpPS e (zSec m) P t) := Lib.hid (by rw [hA]; unfold rpPS; rw [HO.out])
            have HPS : Hid ((rpAdd e (rpS e (zSec m) P N o (o + P)) t o P (rpLE e o P)).1 = rpS e (zSec m) P N (o + P) (o + P)) := Lib.hid (by rw [hA])
            have HE := Lib.hid (fun hh : rpLE e o P = [] => rpAdd_nil (e := e) (S := rpS e (zSec m) P N o (o + P)) (t := t) (o := o) (P := P) hh)
            obtain ⟨Al, cl, hvl, _⟩ := OwnL.shape HI.out.l
            have hsep : u8.ownBlock ≠ (Value.slice (some ⟨g, 0, none⟩) N c).ownBlock := fun e0 => by have := HI.out.lt.1 g (e0.trans rfl); have := hord.o4g; omega
            have HL := Lib.hid (fun hnil : rpLE e o P ≠ [] => lost_s B w.heap.size n1 be bd e _ _ _ _ ⟨z.cyl, z.heads, (P : Int), z.size, rpS e (zSec m) P N o (o + P)⟩ (.slice (some ⟨g, 0, none⟩) N c) (rpLE e o P) u8 t P o wr ⟨HW.out.re 0 _ rfl, HW.out.re 1 _ rfl, HW.out.re 2 _ rfl, HW.out.re 3 _ rfl⟩ (H0.out.below HW.out.bw) HW.out.rd (by have := hord.o4; have := HW.out.lt; omega) HW.out.sec HI.out.l (by have := flt_len (fun i => !rpOk e (o + i)) P; show (fltN _ _).length ≤ _; omega) hsep (fun e0 => by have e1 : some g = some bd := e0; injection e1 with e1; exact hord.o3 e1) (fun x hx => by obtain ⟨k, h1, h2, _⟩ := flt_mem hx; exact ⟨k, h1, h2⟩) hnil rfl hP1 (by omega) HO.out (by rw [rpS_len]; exact hoN) (by rw [rpS_len]; omega) (by omega) (by rw [rpS_len, HF.out.crl, HTi.out]) HF.out.cr pt qt hpt hqt hps hqs)
            obtain ⟨ll, hll⟩ : ∃ ll, (rpLE e o P).length = ll := ⟨_, rfl⟩
            rw [hll] at hvl
            subst hvl
            have hcase := Classical.em (rpLE e o P = [])
            rcases hcase with hnil | hnil
            case' inl =>
              obtain rfl : ll = 0 := by rw [← hll, hnil]; rfl
              have hE := HE.out hnil
              have HWq : Hid (RepW w be [.slice (some ⟨gd, 0, none⟩) e.ds.length n, .slice B' e.cr.length kk, .slice C e.p.length ci, .slice D e.q.length cj] [.int .i64 z.cyl, .int .i64 z.heads, .int .i64 (P : Int), .int .i64 z.size, .slice (some ⟨g, 0, none⟩) N c] w.heap.size g bd (K + 1) K N c wr vs (rpS e (zSec m) P N (o + P) (o + P)) (rpY e (zSec m) P o)) := Lib.hid (by rw [← HPS.out, hE]; exact HW.out)
              have HOq : Hid (RpOt n1 wr vs u9 (rpFd e o P ++ rpPS e (zSec m) P t)) := Lib.hid ⟨by rw [← HPP.out, hE]; simpa using HI.out.f, fun k hk e0 => by have := hvs k hk; have := HI.out.lt.2 k e0; omega, HI.out.sz⟩
              clear HL HE hE hA HPP HPS hnil hll hsep HI HW hpt hqt hps hqs
              go_wp2_with (fail)
              clear d2
              generalize hwq : wr = wq at *
              generalize hvq : u9 = vq at *
              clear hwq hvq
            case' inr =>
              have hl1 : (0 : Int) < (ll : Int) := by
                have : ll ≠ 0 := fun e0 => hnil (List.eq_nil_of_length_eq_zero (hll.trans e0))
                omega
              have HL1 := Lib.hid (HL.out hnil)
              have hX1 := rpFd_len (e := e) (o := o) P
              have hX2 := rpPS_len (e := e) (z := zSec m) (P := P) t
              clear HL HE hA hnil hll hsep hpt hqt hps hqs
              go_wp2_with (fail)
              refine HL1.out.mono ?_; rintro r w5 ⟨v5, rfl, ho5, hs5, hg5⟩
              rw [HPP.out] at ho5
              rw [HPS.out] at hs5
              have HO5 := Lib.hid ho5
              have HW5 := Lib.hid (HW.out.grown hord hg5 hs5)
              have HI5 := Lib.hid (HI.out.low (show World.grownBy _ _ (some g) from hg5) (by have := hord.o4g; omega))
              clear d2 ho5 hs5 hg5 HL1 HPP HPS HW HI
              go_wp2_with (at_builtin; refine stopQ ?_)
              intro _
              refine wpList_appAll Src.cells 3 Src.len _ rfl _ _ _ rfl n1 wr.heap.size 83 83 r0 (.agg #[.int .i64 0, .int .i64 0, .int .i64 0]) 24 Tryz.underlying45 ri rz0 rz1 rz2 rfl (by decide) _ (rpFd e o P) rfl HI5.out.f _ (rpPS e (zSec m) P t) rfl HO5.out hone (by omega) (by decide) HI5.out.sz ?_
              intro vq wq how6 hgr6
              have HWq := Lib.hid (HW5.out.hi hord hbn hvs hgr6 (fun k hk => HI5.out.lt.2 k hk))
              have HOq : Hid (RpOt n1 wq vs vq (rpFd e o P ++ rpPS e (zSec m) P t)) := Lib.hid ⟨how6, fun k hk e0 => by have := hvs k hk; have := (World.ownsRow.lt how6 k e0).1; omega, Nat.le_trans HI5.out.sz hgr6.size⟩
              clear HO5 HW5 HI5 how6 hgr6 hX1 hX2 hl1
              go_wp2_with (fail)
            all_goals
              have hF3 := Lib.hid (fun (x : Nat) (hx : x < P) => rpTr_one (e := e) (z := zSec m) (P := P) (t := t) hx)
              rw [HO.out] at hF3
              have hFl : (rpFd e o P ++ rpPS e (zSec m) P t).length ≤ 16 := by
                have h1 := rpFd_len (e := e) (o := o) P
                have h2 := rpPS_len (e := e) (z := zSec m) (P := P) t
                rw [List.length_append]; omega
              obtain ⟨F, hF⟩ : ∃ F, rpFd e o P ++ rpPS e (zSec m) P t = F := ⟨_, rfl⟩
              rw [hF] at hF3 HOq hFl
              clear hF
              obtain ⟨Aq, cq, hvq, hXq⟩ := OwnL.shape HOq.out.f
              obtain ⟨lf, hlf⟩ : ∃ lf, F.length = lf := ⟨_, rfl⟩
              rw [hlf] at hvq
              subst hvq
              have HLF := Lib.hid hlf
              have HXQ := Lib.hid hXq
              have hlf16 : lf ≤ 16 := by omega
              clear hXq hlf hFl hvs
              go_loopw [15] (fun jj wx => ∃ (x : Nat) (vx : Value), x ≤ P ∧ jj = .int .i64 x ∧ Hid (RepW w be [.slice (some ⟨gd, 0, none⟩) e.ds.length n, .slice B' e.cr.length kk, .slice C e.p.length ci, .slice D e.q.length cj] [.int .i64 z.cyl, .int .i64 z.heads, .int .i64 (P : Int), .int .i64 z.size, .slice (some ⟨g, 0, none⟩) N c] w.heap.size g bd (K + 1) K N c wx vx (rpS e (zSec m) P N (o + P) (o + P)) (rpY e (zSec m) P (o + x))) ∧ Hid (RpOt n1 wx vx (.slice Aq lf cq) F)) (fun jj _ => P - (intOf jj).toNat)
              case atStart => exact ⟨0, vs, by omega, rfl, HWq, HOq⟩
              case round =>
                clear HWq HOq
                obtain ⟨x, vx, hx, rfl, HW, HO4⟩ := hrel
                have d2 := HW.out.rd 2 _ rfl
                by_cases hltx : x < P
                · obtain ⟨ox, hox⟩ : ∃ ox, o + x = ox := ⟨_, rfl⟩
                  have hcast : (o : Int) + (x : Int) = (ox : Int) := by omega
                  have hw2 : IntKind.i64.wrap (ox : Int) = (ox : Int) := by rw [IntKind.wrap_i64]; omega
                  have hox1 : o + (x + 1) = ox + 1 := by omega
                  have hxi : (x : Int) < (P : Int) := by omega
                  have hFX := hF3.out x hltx
                  rw [hox] at hFX HW
                  have hYN := (rpY_next (e := e) (z := zSec m) (P := P) (n := ox) (Lib.hid rfl)).out
                  rw [← hFX] at hYN
                  have HYN := Lib.hid hYN
                  clear hFX hYN hox
                  generalize hwz : wr = wz at *
                  clear hwz
                  go_wp2_with (fail)
                  clear d2
                  go_loopw [16] (fun ii wx => ∃ (i : Nat) (vy : Value), i ≤ lf ∧ ii = .int .i64 i ∧ Hid (RepW w be [.slice (some ⟨gd, 0, none⟩) e.ds.length n, .slice B' e.cr.length kk, .slice C e.p.length ci, .slice D e.q.length cj] [.int .i64 z.cyl, .int .i64 z.heads, .int .i64 (P : Int), .int .i64 z.size, .slice (some ⟨g, 0, none⟩) N c] w.heap.size g bd (K + 1) K N c wx vy (rpS e (zSec m) P N (o + P) (o + P)) (rpY e (zSec m) P ox ++ (F.take i).filter (rpEq ox))) ∧ Hid (RpOt n1 wx vy (.slice Aq lf cq) F)) (fun ii _ => lf - (intOf ii).toNat)
                  case atStart => exact ⟨0, vx, by omega, rfl, Lib.hid (by simpa using HW.out), HO4⟩
                  case round =>
                    clear HW HO4
                    obtain ⟨i, vy, hi2, rfl, HW, HO4⟩ := hrel
                    by_cases hlti : i < lf
                    · obtain ⟨s, hs⟩ : ∃ s, F[i]? = some s := ⟨F[i]'(by have := HLF.out; omega), List.getElem?_eq_getElem (by have := HLF.out; omega)⟩
                      obtain ⟨gq, rfl, _, _⟩ := HXQ.out.resolve_left (fun e0 => by rw [e0] at hs; simp at hs)
                      have c0 := OwnL.at1 Src.len HO4.out.f hs (j := 0) rfl
                      have c1 := OwnL.at1 Src.len HO4.out.f hs (j := 1) rfl
                      have c2 := OwnL.at1 Src.len HO4.out.f hs (j := 2) rfl
                      simp only [Nat.add_zero] at c0
                      have d2 := HW.out.rd 2 _ rfl
                      have hii : (i : Int) < (lf : Int) := by omega
                      have HFT := Lib.hid (fun hp : rpEq ox s = true => flt_takeT hs hp)
                      have HFF := Lib.hid (fun hp : rpEq ox s = false => flt_takeF hs hp)
                      obtain ⟨kd, sc, dm⟩ := s
                      clear hs
                      cases hsc : (sc == (ox : Int))
                      · have hH := HFF.out hsc
                        rw [← hH] at HW
                        clear HFT HFF hH
                        go_wp2_with (fail)
                        go_quiet (fail)
                        go_wp2_with (fail)
                        go_roundw
                        case rel => exact ⟨i + 1, vy, by omega, by go_num, Lib.hid (HW.out.below hord (below_drewNQ (Below.refl _ _) _)), Lib.hid (HO4.out.below (below_drewNQ (Below.refl _ _) _))⟩
                        case measure => simp [intOf]; omega
                      · obtain ⟨X, hX⟩ : ∃ X, rpY e (zSec m) P ox ++ (F.take i).filter (rpEq ox) = X := ⟨_, rfl⟩
                        have HN : Hid (X ++ [⟨kd, sc, dm⟩] = rpY e (zSec m) P ox ++ (F.take (i + 1)).filter (rpEq ox)) := Lib.hid (by rw [HFT.out hsc, ← hX, List.append_assoc])
                        have hXl : X.length + 1 ≤ 16777216 := by
                          have h1 := rpY_len (e := e) (z := zSec m) (P := P) ox
                          have h2 := Nat.le_trans (List.length_filter_le (rpEq ox) (F.take i)) (List.length_take_le i F)
                          rw [← hX, List.length_append]; omega
                        rw [hX] at HW
                        clear HFT HFF hX
                        go_wp2_with (fail)
                        go_quiet (fail)
                        have HWn := Lib.hid (HW.out.below hord (below_drewNQ (Below.refl wr.heap.size wr) nq))
                        have HOn := Lib.hid (HO4.out.below (below_drewNQ (Below.refl wr.heap.size wr) nq))
                        have c0n : (wr.drewN nq).cell? _ = _ := c0
                        have c1n : (wr.drewN nq).cell? _ = _ := c1
                        have c2n : (wr.drewN nq).cell? _ = _ := c2
                        clear HW HO4 c0 c1 c2 d2
                        generalize wr.drewN nq = wn at *
                        have x0 := HWn.out.rc 0 _ rfl
                        have Bw : Below wn.heap.size wn (wn.drew.alloc (.cells #[.int .i64 kd, .int .i64 sc, .int .i64 dm] 83)) := Below.alloc (Below.refl wn.heap.size wn).drew (Nat.le_refl _) _
                        have HWa := Lib.hid (HWn.out.below hord Bw)
                        have HOa := Lib.hid (HOn.out.below Bw)
                        have HRA := Lib.hid (Row.alloc wn.drew #[.int .i64 kd, .int .i64 sc, .int .i64 dm] 83)
                        have xa := HWa.out.rc 0 _ rfl
                        have xb : (wn.alloc (.cells #[.int .i64 kd, .int .i64 sc, .int .i64 dm] 83)).cell? ⟨K + 1, 0, none⟩ = some vy := xa
                        have hbase : K ≤ ((wn.drew.alloc (.cells #[.int .i64 kd, .int .i64 sc, .int .i64 dm] 83))).heap.size := by have := HWa.out.lt; omega
                        have hlK := HWa.out.lt
                        clear HWn HOn Bw
                        go_wp2_with (fail)
                        go_region_law (refine step_appP Src.cells 3 Src.len _ (by rfl) _ _ _ (by rfl) K 83 r0 (.agg #[.int .i64 0, .int .i64 0, .int .i64 0]) 24 Tryz.underlying45 ri rz0 rz1 rz2 rfl (by decide) vy X (by rfl) HWa.out.src _ 1 ⟨kd, sc, dm⟩ (by rfl) HRA.out (hone _) hXl (by decide) hbase ?_; intro g6 c6 w6 how6 hg6 hat6; have hat7 : (Value.slice (some ⟨g6, 0, none⟩) (X.length + 1) c6).ownBlock = vy.ownBlock ∨ (Value.slice (some ⟨g6, 0, none⟩) (X.length + 1) c6).ownBlock = some ((wn.drew.alloc (.cells #[.int .i64 kd, .int .i64 sc, .int .i64 dm] 83))).heap.size := (hat6.elim (fun h1 => .inl h1.symm) (fun h1 => .inr (congrArg some h1))); have hnv := nob_at hat7 HWa.out.hne hlK; have HW6 := Lib.hid (HWa.out.app hord hg6 how6 hnv); have HO6 := Lib.hid (HOa.out.app hg6 hat7 hbn); have x6 := grown_cell hg6 hlK HWa.out.hne xa; have f6 := grown_frozen hg6 hlK HWa.out.hne HWa.out.fc 0; clear how6 hg6 hat6 hat7 hnv)
                        all_goals rw [HN.out] at HW6
                        all_goals clear x0 xa xb x6 f6 c0n c1n c2n HWa HOa HRA hbase hlK
                        all_goals go_wp2_with (fail)
                        all_goals go_roundw
                        all_goals first
                          | exact ⟨i + 1, _, by omega, by go_num, HW6, HO6⟩
                          | (simp [intOf]; omega)
                    · obtain rfl : lf = i := by omega
                      have hH : F.take lf = F := by rw [← HLF.out, List.take_length]
                      rw [hH, HYN.out, ← hox1] at HW
                      clear hH HYN
                      go_wp2_with (fail)
                      go_roundw
                      case rel => exact ⟨x + 1, vy, by omega, by go_num, HW, HO4⟩
                      case measure => simp [intOf]; omega
                · obtain rfl : P = x := by omega
                  have htP : (t + 1) * P = o + P := by rw [Nat.add_mul, Nat.one_mul, HO.out]
                  rw [← htP] at HW
                  clear htP
                  go_wp2_with (fail)
                  go_roundw
                  case rel => exact ⟨t + 1, vx, by omega, by go_num, HW⟩
                  case measure => simp [intOf]; omega
      · obtain rfl : T = t := by omega
        rw [HTi.out] at HW
        obtain ⟨Av, cv, hv, _⟩ := OwnL.shape HW.out.src
        obtain ⟨lv, hlv⟩ : ∃ lv, (rpY e (zSec m) P N).length = lv := ⟨_, rfl⟩
        rw [hlv] at hv
        subst hv
        clear hlv
        have HKD : Hid (∀ w' : World, (∀ (k o : Nat), k ≠ w.heap.size → k ≠ w.heap.size + 1 → w'.cell? ⟨k, o, none⟩ = wr.cell? ⟨k, o, none⟩) → w'.cell? ⟨bd, 0, none⟩ = some (.int .i64 z.cyl) ∧ w'.cell? ⟨bd, 1, none⟩ = some (.int .i64 z.heads) ∧ w'.cell? ⟨bd, 2, none⟩ = some (.int .i64 (P : Int)) ∧ w'.cell? ⟨bd, 3, none⟩ = some (.int .i64 z.size) ∧ w'.cell? ⟨bd, 4, none⟩ = some (.slice (some ⟨g, 0, none⟩) N c) ∧ w'.cell? ⟨K + 1, 0, none⟩ = some (.slice Av lv cv)) := Lib.hid fun w' hk => by
          have h0 := hord.o3b
          have h1 := hord.o4
          exact ⟨(hk _ _ (by omega) (by omega)).trans (HW.out.rd 0 _ rfl), (hk _ _ (by omega) (by omega)).trans (HW.out.rd 1 _ rfl), (hk _ _ (by omega) (by omega)).trans (HW.out.rd 2 _ rfl), (hk _ _ (by omega) (by omega)).trans (HW.out.rd 3 _ rfl), (hk _ _ (by omega) (by omega)).trans (HW.out.rd 4 _ rfl), (hk _ _ (by omega) (by omega)).trans (HW.out.rc 0 _ rfl)⟩
        have y0 := HW.out.r2 0 _ rfl
        have y1 := HW.out.r2 1 _ rfl
        have y2 := HW.out.r2 2 _ rfl
        have y3 := HW.out.r2 3 _ rfl
        have y4 := HW.out.r2 4 _ rfl
        have y5 := HW.out.r3 0 _ rfl
        have f0 := HW.out.f2 0
        have f1 := HW.out.f2 1
        have f2 := HW.out.f2 2
        have f3 := HW.out.f2 3
        have f4 := HW.out.f2 4
        have f5 := HW.out.f3 0
        have K0 := Lib.hid (HKD.out wr.drew (fun k o h1 h2 => rfl))
        have K5 := Lib.hid (HKD.out ((((((wr.setCell ⟨w.heap.size, 0, none⟩ (.int .i64 z.cyl)).setCell ⟨w.heap.size, 1, none⟩ (.int .i64 z.heads)).setCell ⟨w.heap.size, 2, none⟩ (.int .i64 (P : Int))).setCell ⟨w.heap.size, 3, none⟩ (.int .i64 z.size)).setCell ⟨w.heap.size, 4, none⟩ (.slice (some ⟨g, 0, none⟩) N c))).drew (fun k o h1 h2 => (cell_dr _ _).trans ((cell_oth h1).trans ((cell_oth h1).trans ((cell_oth h1).trans ((cell_oth h1).trans (cell_oth h1)))))))
        have K9 := Lib.hid (HKD.out (((((((wr.setCell ⟨w.heap.size, 0, none⟩ (.int .i64 z.cyl)).setCell ⟨w.heap.size, 1, none⟩ (.int .i64 z.heads)).setCell ⟨w.heap.size, 2, none⟩ (.int .i64 (P : Int))).setCell ⟨w.heap.size, 3, none⟩ (.int .i64 z.size)).setCell ⟨w.heap.size, 4, none⟩ (.slice (some ⟨g, 0, none⟩) N c)).setCell ⟨w.heap.size + 1, 0, none⟩ (.slice Av lv cv))).drew (fun k o h1 h2 => (cell_dr _ _).trans ((cell_oth h2).trans ((cell_oth h1).trans ((cell_oth h1).trans ((cell_oth h1).trans ((cell_oth h1).trans (cell_oth h1))))))))
        have hne2 : w.heap.size ≠ w.heap.size + 1 := by omega
        have hne3 : w.heap.size + 1 ≠ w.heap.size := by omega
        have R9 := (set5_row HW.out.r2 (.int .i64 z.cyl) (.int .i64 z.heads) (.int .i64 (P : Int)) (.int .i64 z.size) (.slice (some ⟨g, 0, none⟩) N c)).set_other (g := w.heap.size + 1) (o := 0) (.slice Av lv cv) hne2
        have Q9 := (((((HW.out.r3.set_other (g := w.heap.size) (o := 0) (.int .i64 z.cyl) hne3).set_other (g := w.heap.size) (o := 1) (.int .i64 z.heads) hne3).set_other (g := w.heap.size) (o := 2) (.int .i64 (P : Int)) hne3).set_other (g := w.heap.size) (o := 3) (.int .i64 z.size) hne3).set_other (g := w.heap.size) (o := 4) (.slice (some ⟨g, 0, none⟩) N c) hne3).set (o := 0) (.slice Av lv cv) (by simp)
        have v0 := R9 0 _ rfl
        have v1 := R9 1 _ rfl
        have v2 := R9 2 _ rfl
        have v3 := R9 3 _ rfl
        have v4 := R9 4 _ rfl
        have v5 := Q9 0 _ rfl
        have hG5 : wr.grownBy (((((wr.setCell ⟨w.heap.size, 0, none⟩ (.int .i64 z.cyl)).setCell ⟨w.heap.size, 1, none⟩ (.int .i64 z.heads)).setCell ⟨w.heap.size, 2, none⟩ (.int .i64 (P : Int))).setCell ⟨w.heap.size, 3, none⟩ (.int .i64 z.size)).setCell ⟨w.heap.size, 4, none⟩ (.slice (some ⟨g, 0, none⟩) N c)) (some w.heap.size) := gset (gset (gset (gset (gset (World.grownBy.refl wr _) _ _) _ _) _ _) _ _) _ _
        have hG9 : World.grownBy (((((wr.setCell ⟨w.heap.size, 0, none⟩ (.int .i64 z.cyl)).setCell ⟨w.heap.size, 1, none⟩ (.int .i64 z.heads)).setCell ⟨w.heap.size, 2, none⟩ (.int .i64 (P : Int))).setCell ⟨w.heap.size, 3, none⟩ (.int .i64 z.size)).setCell ⟨w.heap.size, 4, none⟩ (.slice (some ⟨g, 0, none⟩) N c)) ((((((wr.setCell ⟨w.heap.size, 0, none⟩ (.int .i64 z.cyl)).setCell ⟨w.heap.size, 1, none⟩ (.int .i64 z.heads)).setCell ⟨w.heap.size, 2, none⟩ (.int .i64 (P : Int))).setCell ⟨w.heap.size, 3, none⟩ (.int .i64 z.size)).setCell ⟨w.heap.size, 4, none⟩ (.slice (some ⟨g, 0, none⟩) N c)).setCell ⟨w.heap.size + 1, 0, none⟩ (.slice Av lv cv)) (some (w.heap.size + 1)) := gset (World.grownBy.refl _ _) _ _
        have HSE : Hid (SecOwn w.heap.size ((((((wr.setCell ⟨w.heap.size, 0, none⟩ (.int .i64 z.cyl)).setCell ⟨w.heap.size, 1, none⟩ (.int .i64 z.heads)).setCell ⟨w.heap.size, 2, none⟩ (.int .i64 (P : Int))).setCell ⟨w.heap.size, 3, none⟩ (.int .i64 z.size)).setCell ⟨w.heap.size, 4, none⟩ (.slice (some ⟨g, 0, none⟩) N c)).setCell ⟨w.heap.size + 1, 0, none⟩ (.slice Av lv cv)) (.slice (some ⟨g, 0, none⟩) N c) (rpS e (zSec m) P N N N)) := Lib.hid (OwnL.kept (OwnL.kept HW.out.sec hG5 (.inr (fun e0 => by have e1 : some g = some w.heap.size := e0; injection e1 with e1; have := hord.o2; omega))) hG9 (.inr (fun e0 => by have e1 : some g = some (w.heap.size + 1) := e0; injection e1 with e1; have := hord.o2; omega)))
        have HSR : Hid (OwnL Src.cells 3 83 K ((((((wr.setCell ⟨w.heap.size, 0, none⟩ (.int .i64 z.cyl)).setCell ⟨w.heap.size, 1, none⟩ (.int .i64 z.heads)).setCell ⟨w.heap.size, 2, none⟩ (.int .i64 (P : Int))).setCell ⟨w.heap.size, 3, none⟩ (.int .i64 z.size)).setCell ⟨w.heap.size, 4, none⟩ (.slice (some ⟨g, 0, none⟩) N c)).setCell ⟨w.heap.size + 1, 0, none⟩ (.slice Av lv cv)) (.slice Av lv cv) (rpY e (zSec m) P N)) := Lib.hid (OwnL.kept (OwnL.kept HW.out.src hG5 (.inr (own_far HW.out.src (by have := hord.o3b; have := hord.o5; omega)))) hG9 (.inr (own_far HW.out.src (by have := hord.o3b; have := hord.o5; omega))))
        have HBW : Hid (Below w.heap.size w ((((((wr.setCell ⟨w.heap.size, 0, none⟩ (.int .i64 z.cyl)).setCell ⟨w.heap.size, 1, none⟩ (.int .i64 z.heads)).setCell ⟨w.heap.size, 2, none⟩ (.int .i64 (P : Int))).setCell ⟨w.heap.size, 3, none⟩ (.int .i64 z.size)).setCell ⟨w.heap.size, 4, none⟩ (.slice (some ⟨g, 0, none⟩) N c)).setCell ⟨w.heap.size + 1, 0, none⟩ (.slice Av lv cv))) := Lib.hid (Below.setCell (Below.setCell (Below.setCell (Below.setCell (Below.setCell (Below.setCell HW.out.bw (Nat.le_refl _) _) (Nat.le_refl _) _) (Nat.le_refl _) _) (Nat.le_refl _) _) (Nat.le_refl _) _) (by show w.heap.size ≤ w.heap.size + 1; omega) _)
        have hgK : g < K := hord.o5g
        have hwK : w.heap.size ≤ K := by have := hord.o3b; have := hord.o5; omega
        clear R9 Q9 hG5 hG9 HKD HW hne2 hne3
        go_wp2_with (fail)
        go_region_held3 (fun w' => w'.cell? ⟨bd, 0, none⟩ = some (.int .i64 z.cyl) ∧ w'.cell? ⟨bd, 1, none⟩ = some (.int .i64 z.heads) ∧ w'.cell? ⟨bd, 2, none⟩ = some (.int .i64 (P : Int)) ∧ w'.cell? ⟨bd, 3, none⟩ = some (.int .i64 z.size) ∧ w'.cell? ⟨bd, 4, none⟩ = some (.slice (some ⟨g, 0, none⟩) N c) ∧ w'.cell? ⟨K + 1, 0, none⟩ = some (.slice Av lv cv))
          (first | with_reducible exact K0.out | with_reducible exact K5.out | with_reducible exact K9.out)
          (fail)
        go_wp2_with (fail)
        generalize ((((((wr.setCell ⟨w.heap.size, 0, none⟩ (.int .i64 z.cyl)).setCell ⟨w.heap.size, 1, none⟩ (.int .i64 z.heads)).setCell ⟨w.heap.size, 2, none⟩ (.int .i64 (P : Int))).setCell ⟨w.heap.size, 3, none⟩ (.int .i64 z.size)).setCell ⟨w.heap.size, 4, none⟩ (.slice (some ⟨g, 0, none⟩) N c)).setCell ⟨w.heap.size + 1, 0, none⟩ (.slice Av lv cv)) = W9 at *
        exact bodyPost_ret (v := .tuple #[.agg #[.int .i64 z.cyl, .int .i64 z.heads, .int .i64 (P : Int), .int .i64 z.size, .slice (some ⟨g, 0, none⟩) N c], .agg #[.slice Av lv cv]]) (by simp [results, Tryz.results61, go_sem, v0, v1, v2, v3, v4, v5] <;> rfl) rfl ⟨_, _, _, rfl, HSE.out, (fun k hk => by have e1 : some g = some k := hk; injection e1 with e1; omega), hwK, HSR.out, HBW.out.drew⟩
end Go.Proofs.YtfcdienphillnaaGreat
