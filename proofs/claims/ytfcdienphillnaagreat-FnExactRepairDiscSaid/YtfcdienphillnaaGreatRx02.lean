/- RepairDisc, the reference: the walk. -/
import Derived.Test.YtfcdienphillnaaGreatLr01
import Derived.Test.YtfcdienphillnaaGreatLr02
import Derived.Test.YtfcdienphillnaaGreatLr03
import Derived.Test.YtfcdienphillnaaGreatLr04
import Derived.Test.YtfcdienphillnaaGreatLr05
import Derived.Test.YtfcdienphillnaaGreatLr06
import Derived.Test.YtfcdienphillnaaGreatLr07
import Derived.Test.YtfcdienphillnaaGreatLr08
import Derived.Test.YtfcdienphillnaaGreatLr09
import Derived.Test.YtfcdienphillnaaGreatLr10
import Derived.Test.YtfcdienphillnaaGreatLr11
import Derived.Test.YtfcdienphillnaaGreatLr12
import Derived.Test.YtfcdienphillnaaGreatLr13
import Derived.Test.YtfcdienphillnaaGreatLr14
import Derived.Test.YtfcdienphillnaaGreatLr15
import Derived.Test.YtfcdienphillnaaGreatLr16
import Derived.Test.YtfcdienphillnaaGreatLr17
import Derived.Test.YtfcdienphillnaaGreatLr18
import Derived.Test.YtfcdienphillnaaGreatLr19
import Derived.Test.YtfcdienphillnaaGreatLr20
import Derived.Test.YtfcdienphillnaaGreatLr21
import Derived.Test.YtfcdienphillnaaGreatLr22
import Derived.Test.YtfcdienphillnaaGreatLr23
import Derived.Test.YtfcdienphillnaaGreatLr24
import Derived.Test.YtfcdienphillnaaGreatLr25
import Derived.Test.YtfcdienphillnaaGreatLr26
import Derived.Test.YtfcdienphillnaaGreatLr27
import Derived.Test.YtfcdienphillnaaGreatLr28
import Derived.Test.YtfcdienphillnaaGreatLr29
import Derived.Test.YtfcdienphillnaaGreatLr30
import Derived.Test.YtfcdienphillnaaGreatLr31
import Derived.Test.YtfcdienphillnaaGreatLr32
import Derived.Test.YtfcdienphillnaaGreatLr33
import Derived.Test.YtfcdienphillnaaGreatLr34
import Derived.Test.YtfcdienphillnaaGreatLr35
import Derived.Test.YtfcdienphillnaaGreatLr36
import Derived.Test.YtfcdienphillnaaGreatLr37
import Derived.Test.YtfcdienphillnaaGreatLr38
import Derived.Test.YtfcdienphillnaaGreatLr39
import Derived.Test.YtfcdienphillnaaGreatLr40
import Derived.Test.YtfcdienphillnaaGreatLr42
import Derived.Test.YtfcdienphillnaaGreatLr43
import Derived.Test.YtfcdienphillnaaGreatRx01
import Derived.WalkKit
import Derived.WalkSpells
import Derived.WalkLawsBesides
import Derived.Deep.QuietTactic
import Derived.BigQuiet
import Derived.Lib.Hide
import Derived.Laws.AppendOwnNone
import Derived.StillTailTactics
import Derived.Laws.BytesArg
import Derived.Lib.ConvBytes
import Derived.Shelf.Strings.Repeat
import Derived.Deep.WholeRow
import Derived.Maps.AppendAt
import Derived.Shelf.Strconv.Itoa0
import Derived.Deep.RegionHeld3
import Derived.Deep.AppendLies
import Derived.Shelf.SlSortCmp.WholeK
import Derived.Shelf.SlSortCmp.NoneTotal
import Derived.Shelf.SlGeneric
import Derived.ProofKit
import Derived.OpenShut
import Derived.ShutString
import Derived.ChangeOld
import Derived.Below
import Derived.Lib.SmallJoins
import Derived.Deep.Slices
namespace Go.Proofs.YtfcdienphillnaaGreat
open Go.RowKit
set_option maxRecDepth 20000 in
set_option maxHeartbeats 8000000 in
theorem rpd_s (B : Nat) (e : Evd) (va vb vc vd : Value) (w : World) (h : EvOwn B w e va vb vc vd) (hs : EvSmall e) :
    Calls Tryz.prog 27 #[evV va vb vc vd] w fun r w' => ∃ x y K, r = .returned (.tuple #[dscV (rdD e) x, .agg #[y], .int .i64 (rdC e)]) ∧ SecOwn w.heap.size w' x (rdD e).secs ∧ (∀ g, x.ownBlock = some g → g < K) ∧ w.heap.size ≤ K ∧ OwnL Src.cells 3 83 K w' y (rdY e) ∧ Below w.heap.size w w' := by
  have H0 := Lib.hid h
  obtain ⟨A, n, B', kk, C, i, D, j, rfl, rfl, rfl, rfl⟩ := h.shape
  obtain ⟨RE, R2, R3, HBZ, zz⟩ := boxes3 w #[.slice A e.ds.length n, .slice B' e.cr.length kk, .slice C e.p.length i, .slice D e.q.length j] #[.int .i64 0, .int .i64 0, .int .i64 0, .int .i64 0, .slice none 0 0] #[.slice none 0 0] 39 43 47
  have s1 : (w.alloc (.cells #[.slice A e.ds.length n, .slice B' e.cr.length kk, .slice C e.p.length i, .slice D e.q.length j] 39)).heap.size = w.heap.size + 1 := by simp
  have s2 : ((w.alloc (.cells #[.slice A e.ds.length n, .slice B' e.cr.length kk, .slice C e.p.length i, .slice D e.q.length j] 39)).alloc (.cells #[.int .i64 0, .int .i64 0, .int .i64 0, .int .i64 0, .slice none 0 0] 43)).heap.size = w.heap.size + 2 := by simp
  have F2 : ∀ o, ((((w.alloc (.cells #[.slice A e.ds.length n, .slice B' e.cr.length kk, .slice C e.p.length i, .slice D e.q.length j] 39)).alloc (.cells #[.int .i64 0, .int .i64 0, .int .i64 0, .int .i64 0, .slice none 0 0] 43)).alloc (.cells #[.slice none 0 0] 47))).frozen? ⟨w.heap.size + 1, o, none⟩ = false := fun o => frozen_below (fun o => by rw [← s1]; exact frozen_alloc (w.alloc (.cells #[.slice A e.ds.length n, .slice B' e.cr.length kk, .slice C e.p.length i, .slice D e.q.length j] 39)) #[.int .i64 0, .int .i64 0, .int .i64 0, .int .i64 0, .slice none 0 0] 43 o) (Below.alloc (Below.refl _ _) (Nat.le_refl _) _) (by omega) o
  have F3 : ∀ o, ((((w.alloc (.cells #[.slice A e.ds.length n, .slice B' e.cr.length kk, .slice C e.p.length i, .slice D e.q.length j] 39)).alloc (.cells #[.int .i64 0, .int .i64 0, .int .i64 0, .int .i64 0, .slice none 0 0] 43)).alloc (.cells #[.slice none 0 0] 47))).frozen? ⟨w.heap.size + 2, o, none⟩ = false := fun o => by rw [← s2]; exact frozen_alloc _ _ _ o
  have HV := Lib.hid (evp_s B w.heap.size e _ _ _ _ (((w.alloc (.cells #[.slice A e.ds.length n, .slice B' e.cr.length kk, .slice C e.p.length i, .slice D e.q.length j] 39)).alloc (.cells #[.int .i64 0, .int .i64 0, .int .i64 0, .int .i64 0, .slice none 0 0] 43)).alloc (.cells #[.slice none 0 0] 47)) ⟨RE 0 _ rfl, RE 1 _ rfl, RE 2 _ rfl, RE 3 _ rfl⟩ (h.below HBZ) hs)
  have HRE := Lib.hid RE
  have HR2 := Lib.hid R2
  have HR3 := Lib.hid R3
  have HF2 := Lib.hid F2
  have HF3 := Lib.hid F3
  have HB := Lib.hid HBZ
  clear h RE R2 R3 F2 F3 HBZ
  go_enter Tryz.func27, Tryz.ntmps27
  cases hok : evOk e
  · rw [hok] at HV
    have hD : rdD e = ⟨0, 0, 0, 0, []⟩ := by unfold rdD; rw [hok]; rfl
    have hY : rdY e = [] := by unfold rdY; rw [hok]; rfl
    have hC : rdC e = 1 := by unfold rdC; rw [hok]; rfl
    rw [hD, hY, hC]
    clear hD hY hC
    go_wp2_with (fail)
    generalize (((w.alloc (.cells #[.slice A e.ds.length n, .slice B' e.cr.length kk, .slice C e.p.length i, .slice D e.q.length j] 39)).alloc (.cells #[.int .i64 0, .int .i64 0, .int .i64 0, .int .i64 0, .slice none 0 0] 43)).alloc (.cells #[.slice none 0 0] 47)) = w0 at *
    refine HV.out.mono ?_; rintro r w4 ⟨rfl, hb4⟩
    have HR2a := Lib.hid (HR2.out.below hb4 (by omega))
    have HR3a := Lib.hid (HR3.out.below hb4 (by omega))
    have hb := HB.out.trans (hb4.mono (by omega))
    have y0 := HR2a.out 0 _ rfl
    have y1 := HR2a.out 1 _ rfl
    have y2 := HR2a.out 2 _ rfl
    have y3 := HR2a.out 3 _ rfl
    have y4 := HR2a.out 4 _ rfl
    have y5 := HR3a.out 0 _ rfl
    have f0 := frozen_below HF2.out hb4 (by omega) 0
    have f1 := frozen_below HF2.out hb4 (by omega) 1
    have f2 := frozen_below HF2.out hb4 (by omega) 2
    have f3 := frozen_below HF2.out hb4 (by omega) 3
    have f4 := frozen_below HF2.out hb4 (by omega) 4
    have f5 := frozen_below HF3.out hb4 (by omega) 0
    have hne2 : w.heap.size + 1 ≠ w.heap.size + 2 := by omega
    have hne3 : w.heap.size + 2 ≠ w.heap.size + 1 := by omega
    have R9 := (set5_row HR2a.out (.int .i64 0) (.int .i64 0) (.int .i64 0) (.int .i64 0) (.slice none 0 0)).set_other (g := w.heap.size + 2) (o := 0) (.slice none 0 0) hne2
    have Q9 := (((((HR3a.out.set_other (g := w.heap.size + 1) (o := 0) (.int .i64 0) hne3).set_other (g := w.heap.size + 1) (o := 1) (.int .i64 0) hne3).set_other (g := w.heap.size + 1) (o := 2) (.int .i64 0) hne3).set_other (g := w.heap.size + 1) (o := 3) (.int .i64 0) hne3).set_other (g := w.heap.size + 1) (o := 4) (.slice none 0 0) hne3).set (o := 0) (.slice none 0 0) (by simp)
    have v0 := R9 0 _ rfl
    have v1 := R9 1 _ rfl
    have v2 := R9 2 _ rfl
    have v3 := R9 3 _ rfl
    have v4 := R9 4 _ rfl
    have v5 := Q9 0 _ rfl
    have HBW : Hid (Below w.heap.size w ((((((w4.setCell ⟨w.heap.size + 1, 0, none⟩ (.int .i64 0)).setCell ⟨w.heap.size + 1, 1, none⟩ (.int .i64 0)).setCell ⟨w.heap.size + 1, 2, none⟩ (.int .i64 0)).setCell ⟨w.heap.size + 1, 3, none⟩ (.int .i64 0)).setCell ⟨w.heap.size + 1, 4, none⟩ (.slice none 0 0)).setCell ⟨w.heap.size + 2, 0, none⟩ (.slice none 0 0))) := Lib.hid (Below.setCell (Below.setCell (Below.setCell (Below.setCell (Below.setCell (Below.setCell hb (Nat.le_succ _) _) (Nat.le_succ _) _) (Nat.le_succ _) _) (Nat.le_succ _) _) (Nat.le_succ _) _) (by show w.heap.size ≤ w.heap.size + 2; omega) _)
    clear R9 Q9 hne2 hne3 HR2a HR3a
    go_wp2_with (fail)
    generalize ((((((w4.setCell ⟨w.heap.size + 1, 0, none⟩ (.int .i64 0)).setCell ⟨w.heap.size + 1, 1, none⟩ (.int .i64 0)).setCell ⟨w.heap.size + 1, 2, none⟩ (.int .i64 0)).setCell ⟨w.heap.size + 1, 3, none⟩ (.int .i64 0)).setCell ⟨w.heap.size + 1, 4, none⟩ (.slice none 0 0)).setCell ⟨w.heap.size + 2, 0, none⟩ (.slice none 0 0)) = W9 at *
    exact bodyPost_ret (v := .tuple #[.agg #[.int .i64 0, .int .i64 0, .int .i64 0, .int .i64 0, .slice none 0 0], .agg #[.slice none 0 0], .int .i64 1]) (by simp [results, Tryz.results27, go_sem, v0, v1, v2, v3, v4, v5] <;> rfl) rfl ⟨.slice none 0 0, .slice none 0 0, rfl, OwnL.of_nil, w.heap.size, (fun g hg => nomatch hg), Nat.le_refl _, OwnL.of_nil, HBW.out⟩
  · obtain ⟨z, P, m, T, N, F⟩ := rd_f hok
    rw [hok] at HV
    have hD : rdD e = ⟨z.cyl, z.heads, (P : Int), z.size, rpS e (zSec m) P N N N⟩ := by unfold rdD; rw [hok, F.hz, F.hs, F.hp]; rfl
    have hY : rdY e = rpY e (zSec m) P N := by unfold rdY; rw [hok, F.hx]; rfl
    have hC : rdC e = 0 := by unfold rdC; rw [hok]; rfl
    have HREP := Lib.hid (fun (w' : World) (hb : Below w.heap.size w w') (hr : Row w' w.heap.size [.slice A e.ds.length n, .slice B' e.cr.length kk, .slice C e.p.length i, .slice D e.q.length j]) => rep_s B w.heap.size e _ _ _ _ z P m T N F.f F.hn w' ⟨hr 0 _ rfl, hr 1 _ rfl, hr 2 _ rfl, hr 3 _ rfl⟩ (H0.out.below hb))
    rw [hD, hY, hC]
    clear hD hY hC hok
    go_wp2_with (fail)
    generalize (((w.alloc (.cells #[.slice A e.ds.length n, .slice B' e.cr.length kk, .slice C e.p.length i, .slice D e.q.length j] 39)).alloc (.cells #[.int .i64 0, .int .i64 0, .int .i64 0, .int .i64 0, .slice none 0 0] 43)).alloc (.cells #[.slice none 0 0] 47)) = w0 at *
    refine HV.out.mono ?_; rintro r w4 ⟨rfl, hb4⟩
    have hb := HB.out.trans (hb4.mono (by omega))
    have z4 := hb4.size
    have RE4 := HRE.out.below hb4 (by omega)
    go_wp2_with (fail)
    refine (HREP.out w4 hb RE4).mono ?_; rintro r w5 ⟨x, y, K, rfl, hx, hxk, hwk, hy, hb5⟩
    obtain ⟨X, N', c, rfl⟩ := own_slice hx
    obtain ⟨Y, ly, cy, rfl⟩ := own_slice hy
    have Ba : Below w5.heap.size w5 ((w5.alloc (.cells #[.int .i64 z.cyl, .int .i64 z.heads, .int .i64 (P : Int), .int .i64 z.size, .slice X N' c] 43)).alloc (.cells #[.slice Y ly cy] 47)) := Below.alloc (Below.alloc (Below.refl _ _) (Nat.le_refl _) _) (by simp) _
    have z5 := hb5.size
    have HR2a := Lib.hid ((HR2.out.below hb4 (by omega)).below (hb5.trans (Ba.mono z5)) (by omega))
    have HR3a := Lib.hid ((HR3.out.below hb4 (by omega)).below (hb5.trans (Ba.mono z5)) (by omega))
    have f2 := frozen_below (frozen_below HF2.out hb4 (by omega)) (hb5.trans (Ba.mono z5)) (by omega)
    have f3 := frozen_below (frozen_below HF3.out hb4 (by omega)) (hb5.trans (Ba.mono z5)) (by omega)
    have RD : Row ((w5.alloc (.cells #[.int .i64 z.cyl, .int .i64 z.heads, .int .i64 (P : Int), .int .i64 z.size, .slice X N' c] 43)).alloc (.cells #[.slice Y ly cy] 47)) w5.heap.size [.int .i64 z.cyl, .int .i64 z.heads, .int .i64 (P : Int), .int .i64 z.size, .slice X N' c] := (Row.alloc w5 #[.int .i64 z.cyl, .int .i64 z.heads, .int .i64 (P : Int), .int .i64 z.size, .slice X N' c] 43).below (Below.alloc (Below.refl _ _) (Nat.le_refl _) _) (by simp)
    have RC : Row ((w5.alloc (.cells #[.int .i64 z.cyl, .int .i64 z.heads, .int .i64 (P : Int), .int .i64 z.size, .slice X N' c] 43)).alloc (.cells #[.slice Y ly cy] 47)) (w5.heap.size + 1) [.slice Y ly cy] := by
      have := Row.alloc (w5.alloc (.cells #[.int .i64 z.cyl, .int .i64 z.heads, .int .i64 (P : Int), .int .i64 z.size, .slice X N' c] 43)) #[.slice Y ly cy] 47
      simpa using this
    have HX := Lib.hid (OwnL.below (OwnL.base hx (by omega : w.heap.size ≤ w4.heap.size)) Ba)
    have HY := Lib.hid (OwnL.below hy Ba)
    have HBx := Lib.hid ((hb.trans (hb5.mono (by have := hb.size; omega))).trans (Ba.mono (by have := hb.size; omega)))
    have z4' : w.heap.size + 3 ≤ w4.heap.size := by omega
    obtain ⟨K0, K5, K9, R9, Q9, G5, G9⟩ := pair_ret HR2a.out HR3a.out RD RC (by omega) (by omega) (by omega) (by omega) (by omega)
    have v0 := R9 0 _ rfl
    have v1 := R9 1 _ rfl
    have v2 := R9 2 _ rfl
    have v3 := R9 3 _ rfl
    have v4 := R9 4 _ rfl
    have v5 := Q9 0 _ rfl
    have y0 := HR2a.out 0 _ rfl
    have y1 := HR2a.out 1 _ rfl
    have y2 := HR2a.out 2 _ rfl
    have y3 := HR2a.out 3 _ rfl
    have y4 := HR2a.out 4 _ rfl
    have y5 := HR3a.out 0 _ rfl
    have f0 := f2 0
    have f1 := f2 1
    have f4 := f2 4
    have f5 := f3 0
    replace f3 := f2 3
    replace f2 := f2 2
    have K0 := Lib.hid K0
    have K5 := Lib.hid K5
    have K9 := Lib.hid K9
    have HX9 : Hid (SecOwn w.heap.size ((((((((w5.alloc (.cells #[.int .i64 z.cyl, .int .i64 z.heads, .int .i64 (P : Int), .int .i64 z.size, .slice X N' c] 43)).alloc (.cells #[.slice Y ly cy] 47)).setCell ⟨w.heap.size + 1, 0, none⟩ (.int .i64 z.cyl)).setCell ⟨w.heap.size + 1, 1, none⟩ (.int .i64 z.heads)).setCell ⟨w.heap.size + 1, 2, none⟩ (.int .i64 (P : Int))).setCell ⟨w.heap.size + 1, 3, none⟩ (.int .i64 z.size)).setCell ⟨w.heap.size + 1, 4, none⟩ (.slice X N' c)).setCell ⟨w.heap.size + 2, 0, none⟩ (.slice Y ly cy)) (.slice X N' c) (rpS e (zSec m) P N N N)) := Lib.hid (OwnL.base (OwnL.kept (OwnL.kept (OwnL.below hx Ba) G5 (.inr (own_far hx (by omega)))) G9 (.inr (own_far hx (by omega)))) (by omega))
    have HY9 : Hid (OwnL Src.cells 3 83 K ((((((((w5.alloc (.cells #[.int .i64 z.cyl, .int .i64 z.heads, .int .i64 (P : Int), .int .i64 z.size, .slice X N' c] 43)).alloc (.cells #[.slice Y ly cy] 47)).setCell ⟨w.heap.size + 1, 0, none⟩ (.int .i64 z.cyl)).setCell ⟨w.heap.size + 1, 1, none⟩ (.int .i64 z.heads)).setCell ⟨w.heap.size + 1, 2, none⟩ (.int .i64 (P : Int))).setCell ⟨w.heap.size + 1, 3, none⟩ (.int .i64 z.size)).setCell ⟨w.heap.size + 1, 4, none⟩ (.slice X N' c)).setCell ⟨w.heap.size + 2, 0, none⟩ (.slice Y ly cy)) (.slice Y ly cy) (rpY e (zSec m) P N)) := Lib.hid (OwnL.kept (OwnL.kept HY.out G5 (.inr (own_far hy (by omega)))) G9 (.inr (own_far hy (by omega))))
    have HB9 : Hid (Below w.heap.size w ((((((((w5.alloc (.cells #[.int .i64 z.cyl, .int .i64 z.heads, .int .i64 (P : Int), .int .i64 z.size, .slice X N' c] 43)).alloc (.cells #[.slice Y ly cy] 47)).setCell ⟨w.heap.size + 1, 0, none⟩ (.int .i64 z.cyl)).setCell ⟨w.heap.size + 1, 1, none⟩ (.int .i64 z.heads)).setCell ⟨w.heap.size + 1, 2, none⟩ (.int .i64 (P : Int))).setCell ⟨w.heap.size + 1, 3, none⟩ (.int .i64 z.size)).setCell ⟨w.heap.size + 1, 4, none⟩ (.slice X N' c)).setCell ⟨w.heap.size + 2, 0, none⟩ (.slice Y ly cy))) := Lib.hid (Below.setCell (Below.setCell (Below.setCell (Below.setCell (Below.setCell (Below.setCell HBx.out (Nat.le_succ _) _) (Nat.le_succ _) _) (Nat.le_succ _) _) (Nat.le_succ _) _) (Nat.le_succ _) _) (by show w.heap.size ≤ w.heap.size + 2; omega) _)
    clear R9 Q9 G5 G9 HX HY HBx RD RC HR2a HR3a Ba RE4 hx hy
    go_wp2_with (fail)
    go_region_held3 (fun w' => w'.cell? ⟨w5.heap.size, 0, none⟩ = some (.int .i64 z.cyl) ∧ w'.cell? ⟨w5.heap.size, 1, none⟩ = some (.int .i64 z.heads) ∧ w'.cell? ⟨w5.heap.size, 2, none⟩ = some (.int .i64 (P : Int)) ∧ w'.cell? ⟨w5.heap.size, 3, none⟩ = some (.int .i64 z.size) ∧ w'.cell? ⟨w5.heap.size, 4, none⟩ = some (.slice X N' c) ∧ w'.cell? ⟨w5.heap.size + 1, 0, none⟩ = some (.slice Y ly cy))
      (first | with_reducible exact K0.out | with_reducible exact K5.out | with_reducible exact K9.out)
      (fail)
    go_wp2_with (fail)
    generalize ((((((((w5.alloc (.cells #[.int .i64 z.cyl, .int .i64 z.heads, .int .i64 (P : Int), .int .i64 z.size, .slice X N' c] 43)).alloc (.cells #[.slice Y ly cy] 47)).setCell ⟨w.heap.size + 1, 0, none⟩ (.int .i64 z.cyl)).setCell ⟨w.heap.size + 1, 1, none⟩ (.int .i64 z.heads)).setCell ⟨w.heap.size + 1, 2, none⟩ (.int .i64 (P : Int))).setCell ⟨w.heap.size + 1, 3, none⟩ (.int .i64 z.size)).setCell ⟨w.heap.size + 1, 4, none⟩ (.slice X N' c)).setCell ⟨w.heap.size + 2, 0, none⟩ (.slice Y ly cy)) = W9 at *
    exact bodyPost_ret (v := .tuple #[.agg #[.int .i64 z.cyl, .int .i64 z.heads, .int .i64 (P : Int), .int .i64 z.size, .slice X N' c], .agg #[.slice Y ly cy], .int .i64 0]) (by simp [results, Tryz.results27, go_sem, v0, v1, v2, v3, v4, v5] <;> rfl) rfl ⟨_, _, rfl, HX9.out, K, hxk, by omega, HY9.out, HB9.out.drew⟩
end Go.Proofs.YtfcdienphillnaaGreat
