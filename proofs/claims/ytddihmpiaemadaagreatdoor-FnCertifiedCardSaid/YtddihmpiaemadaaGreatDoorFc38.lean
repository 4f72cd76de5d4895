/- RepairDisc, the implementation: the walk. Repaired sectors fit their checks: the plain law. A certificate checked: the plain law. The lost sectors: what the walks keep. -/
import Derived.Test.YtddihmpiaemadaaGreatDoorFc36
import Derived.Test.YtddihmpiaemadaaGreatDoorFc37
import Derived.Test.YtddihmpiaemadaaGreatDoorFc19
import Derived.Test.YtddihmpiaemadaaGreatDoorFc18
namespace Go.Proofs.YtddihmpiaemadaaGreatDoor
set_option linter.unusedVariables false
set_option linter.unusedSimpArgs false
open Go.RowKit
set_option maxRecDepth 20000 in
set_option maxHeartbeats 8000000 in
theorem rpd_i (B : Nat) (e : Evd) (va vb vc vd : Value) (w : World) (h : EvOwn B w e va vb vc vd) (hs : EvSmall e) :
    Calls Tryz.prog 6 #[evV va vb vc vd] w fun r w' => ∃ x y K, r = .returned (.tuple #[dscV (rdD e) x, .agg #[y], .int .i64 (rdC e)]) ∧ SecOwn w.heap.size w' x (rdD e).secs ∧ (∀ g, x.ownBlock = some g → g < K) ∧ w.heap.size ≤ K ∧ OwnL Src.cells 3 49 K w' y (rdY e) ∧ Below w.heap.size w w' := by
  have H0 := Lib.hid h
  obtain ⟨A, n, B', kk, C, i, D, j, rfl, rfl, rfl, rfl⟩ := h.shape
  obtain ⟨RE, R2, R3, HBZ, zz⟩ := boxes3 w #[.slice A e.ds.length n, .slice B' e.cr.length kk, .slice C e.p.length i, .slice D e.q.length j] #[.int .i64 0, .int .i64 0, .int .i64 0, .int .i64 0, .slice none 0 0] #[.slice none 0 0] 28 32 35
  have s1 : (w.alloc (.cells #[.slice A e.ds.length n, .slice B' e.cr.length kk, .slice C e.p.length i, .slice D e.q.length j] 28)).heap.size = w.heap.size + 1 := by simp
  have s2 : ((w.alloc (.cells #[.slice A e.ds.length n, .slice B' e.cr.length kk, .slice C e.p.length i, .slice D e.q.length j] 28)).alloc (.cells #[.int .i64 0, .int .i64 0, .int .i64 0, .int .i64 0, .slice none 0 0] 32)).heap.size = w.heap.size + 2 := by simp
  have F2 : ∀ o, ((((w.alloc (.cells #[.slice A e.ds.length n, .slice B' e.cr.length kk, .slice C e.p.length i, .slice D e.q.length j] 28)).alloc (.cells #[.int .i64 0, .int .i64 0, .int .i64 0, .int .i64 0, .slice none 0 0] 32)).alloc (.cells #[.slice none 0 0] 35))).frozen? ⟨w.heap.size + 1, o, none⟩ = false := fun o => frozen_below (fun o => by rw [← s1]; exact frozen_alloc (w.alloc (.cells #[.slice A e.ds.length n, .slice B' e.cr.length kk, .slice C e.p.length i, .slice D e.q.length j] 28)) #[.int .i64 0, .int .i64 0, .int .i64 0, .int .i64 0, .slice none 0 0] 32 o) (Below.alloc (Below.refl _ _) (Nat.le_refl _) _) (by omega) o
  have F3 : ∀ o, ((((w.alloc (.cells #[.slice A e.ds.length n, .slice B' e.cr.length kk, .slice C e.p.length i, .slice D e.q.length j] 28)).alloc (.cells #[.int .i64 0, .int .i64 0, .int .i64 0, .int .i64 0, .slice none 0 0] 32)).alloc (.cells #[.slice none 0 0] 35))).frozen? ⟨w.heap.size + 2, o, none⟩ = false := fun o => by rw [← s2]; exact frozen_alloc _ _ _ o
  have HV := Lib.hid (ev_i B e _ _ _ _ (((w.alloc (.cells #[.slice A e.ds.length n, .slice B' e.cr.length kk, .slice C e.p.length i, .slice D e.q.length j] 28)).alloc (.cells #[.int .i64 0, .int .i64 0, .int .i64 0, .int .i64 0, .slice none 0 0] 32)).alloc (.cells #[.slice none 0 0] 35)) (h.below HBZ) hs)
  have l0 := RE 0 _ rfl
  have l1 := RE 1 _ rfl
  have l2 := RE 2 _ rfl
  have l3 := RE 3 _ rfl
  have HRE := Lib.hid RE
  have HR2 := Lib.hid R2
  have HR3 := Lib.hid R3
  have HF2 := Lib.hid F2
  have HF3 := Lib.hid F3
  have HB := Lib.hid HBZ
  clear h RE R2 R3 F2 F3 HBZ
  go_enter Tryz.func6, Tryz.ntmps6
  cases hok : evOk e
  · rw [hok] at HV
    have hD : rdD e = ⟨0, 0, 0, 0, []⟩ := by unfold rdD; rw [hok]; rfl
    have hY : rdY e = [] := by unfold rdY; rw [hok]; rfl
    have hC : rdC e = 1 := by unfold rdC; rw [hok]; rfl
    rw [hD, hY, hC]
    clear hD hY hC
    go_wp2_with (fail)
    generalize (((w.alloc (.cells #[.slice A e.ds.length n, .slice B' e.cr.length kk, .slice C e.p.length i, .slice D e.q.length j] 28)).alloc (.cells #[.int .i64 0, .int .i64 0, .int .i64 0, .int .i64 0, .slice none 0 0] 32)).alloc (.cells #[.slice none 0 0] 35)) = w0 at *
    refine HV.out.mono ?_; rintro r w4 ⟨rfl, hb4⟩
    have HR2a := Lib.hid (HR2.out.below hb4 (by omega))
    have HR3a := Lib.hid (HR3.out.below hb4 (by omega))
    have hb := HB.out.trans (hb4.mono (by omega))
    have y0 := HR2a.out 0 _ rfl
    have y1 := HR2a.out 1 _ rfl
    have y2 := HR2a.out 2 _ rfl
    have y3 := HR2a.out 3 _ rfl
    have y4 := HR2a.out 4 _ rfl
    have y5 := HR3a.out 0 _ rfl
    have f0 := frozen_below HF2.out hb4 (by omega) 0
    have f1 := frozen_below HF2.out hb4 (by omega) 1
    have f2 := frozen_below HF2.out hb4 (by omega) 2
    have f3 := frozen_below HF2.out hb4 (by omega) 3
    have f4 := frozen_below HF2.out hb4 (by omega) 4
    have f5 := frozen_below HF3.out hb4 (by omega) 0
    have hne2 : w.heap.size + 1 ≠ w.heap.size + 2 := by omega
    have hne3 : w.heap.size + 2 ≠ w.heap.size + 1 := by omega
    have R9 := (set5_row HR2a.out (.int .i64 0) (.int .i64 0) (.int .i64 0) (.int .i64 0) (.slice none 0 0)).set_other (g := w.heap.size + 2) (o := 0) (.slice none 0 0) hne2
    have Q9 := (((((HR3a.out.set_other (g := w.heap.size + 1) (o := 0) (.int .i64 0) hne3).set_other (g := w.heap.size + 1) (o := 1) (.int .i64 0) hne3).set_other (g := w.heap.size + 1) (o := 2) (.int .i64 0) hne3).set_other (g := w.heap.size + 1) (o := 3) (.int .i64 0) hne3).set_other (g := w.heap.size + 1) (o := 4) (.slice none 0 0) hne3).set (o := 0) (.slice none 0 0) (by simp)
    have v0 := R9 0 _ rfl
    have v1 := R9 1 _ rfl
    have v2 := R9 2 _ rfl
    have v3 := R9 3 _ rfl
    have v4 := R9 4 _ rfl
    have v5 := Q9 0 _ rfl
    have HBW : Hid (Below w.heap.size w ((((((w4.setCell ⟨w.heap.size + 1, 0, none⟩ (.int .i64 0)).setCell ⟨w.heap.size + 1, 1, none⟩ (.int .i64 0)).setCell ⟨w.heap.size + 1, 2, none⟩ (.int .i64 0)).setCell ⟨w.heap.size + 1, 3, none⟩ (.int .i64 0)).setCell ⟨w.heap.size + 1, 4, none⟩ (.slice none 0 0)).setCell ⟨w.heap.size + 2, 0, none⟩ (.slice none 0 0))) := Lib.hid (Below.setCell (Below.setCell (Below.setCell (Below.setCell (Below.setCell (Below.setCell hb (Nat.le_succ _) _) (Nat.le_succ _) _) (Nat.le_succ _) _) (Nat.le_succ _) _) (Nat.le_succ _) _) (by show w.heap.size ≤ w.heap.size + 2; omega) _)
    clear R9 Q9 hne2 hne3 HR2a HR3a
    go_wp2_with (fail)
    generalize ((((((w4.setCell ⟨w.heap.size + 1, 0, none⟩ (.int .i64 0)).setCell ⟨w.heap.size + 1, 1, none⟩ (.int .i64 0)).setCell ⟨w.heap.size + 1, 2, none⟩ (.int .i64 0)).setCell ⟨w.heap.size + 1, 3, none⟩ (.int .i64 0)).setCell ⟨w.heap.size + 1, 4, none⟩ (.slice none 0 0)).setCell ⟨w.heap.size + 2, 0, none⟩ (.slice none 0 0)) = W9 at *
    exact bodyPost_ret (v := .tuple #[.agg #[.int .i64 0, .int .i64 0, .int .i64 0, .int .i64 0, .slice none 0 0], .agg #[.slice none 0 0], .int .i64 1]) (by simp [results, Tryz.results6, go_sem, v0, v1, v2, v3, v4, v5] <;> rfl) rfl ⟨.slice none 0 0, .slice none 0 0, rfl, OwnL.of_nil, w.heap.size, (fun g hg => nomatch hg), Nat.le_refl _, OwnL.of_nil, HBW.out⟩
  · obtain ⟨z, P, m, T, N, F⟩ := rd_f hok
    rw [hok] at HV
    have hD : rdD e = ⟨z.cyl, z.heads, (P : Int), z.size, rpS e (zSec m) P N N N⟩ := by unfold rdD; rw [hok, F.hz, F.hs, F.hp]; rfl
    have hY : rdY e = rpY e (zSec m) P N := by unfold rdY; rw [hok, F.hx]; rfl
    have hC : rdC e = 0 := by unfold rdC; rw [hok]; rfl
    have HREP := Lib.hid (fun (w' : World) (hb : Below w.heap.size w w') => rep_i B e _ _ _ _ z P m T N F.f F.hn w' (H0.out.below hb))
    rw [hD, hY, hC]
    clear hD hY hC hok
    go_wp2_with (fail)
    generalize (((w.alloc (.cells #[.slice A e.ds.length n, .slice B' e.cr.length kk, .slice C e.p.length i, .slice D e.q.length j] 28)).alloc (.cells #[.int .i64 0, .int .i64 0, .int .i64 0, .int .i64 0, .slice none 0 0] 32)).alloc (.cells #[.slice none 0 0] 35)) = w0 at *
    refine HV.out.mono ?_; rintro r w4 ⟨rfl, hb4⟩
    have hb := HB.out.trans (hb4.mono (by omega))
    have z4 := hb4.size
    have RE4 := HRE.out.below hb4 (by omega)
    have l0 := RE4 0 _ rfl
    have l1 := RE4 1 _ rfl
    have l2 := RE4 2 _ rfl
    have l3 := RE4 3 _ rfl
    go_wp2_with (fail)
    refine (HREP.out w4 hb).mono ?_; rintro r w5 ⟨x, y, K, rfl, hx, hxk, hwk, hy, hb5⟩
    obtain ⟨X, N', c, rfl⟩ := own_slice hx
    obtain ⟨Y, ly, cy, rfl⟩ := own_slice hy
    have Ba : Below w5.heap.size w5 ((w5.alloc (.cells #[.int .i64 z.cyl, .int .i64 z.heads, .int .i64 (P : Int), .int .i64 z.size, .slice X N' c] 32)).alloc (.cells #[.slice Y ly cy] 35)) := Below.alloc (Below.alloc (Below.refl _ _) (Nat.le_refl _) _) (by simp) _
    have z5 := hb5.size
    have HR2a := Lib.hid ((HR2.out.below hb4 (by omega)).below (hb5.trans (Ba.mono z5)) (by omega))
    have HR3a := Lib.hid ((HR3.out.below hb4 (by omega)).below (hb5.trans (Ba.mono z5)) (by omega))
    have f2 := frozen_below (frozen_below HF2.out hb4 (by omega)) (hb5.trans (Ba.mono z5)) (by omega)
    have f3 := frozen_below (frozen_below HF3.out hb4 (by omega)) (hb5.trans (Ba.mono z5)) (by omega)
    have RD : Row ((w5.alloc (.cells #[.int .i64 z.cyl, .int .i64 z.heads, .int .i64 (P : Int), .int .i64 z.size, .slice X N' c] 32)).alloc (.cells #[.slice Y ly cy] 35)) w5.heap.size [.int .i64 z.cyl, .int .i64 z.heads, .int .i64 (P : Int), .int .i64 z.size, .slice X N' c] := (Row.alloc w5 #[.int .i64 z.cyl, .int .i64 z.heads, .int .i64 (P : Int), .int .i64 z.size, .slice X N' c] 32).below (Below.alloc (Below.refl _ _) (Nat.le_refl _) _) (by simp)
    have RC : Row ((w5.alloc (.cells #[.int .i64 z.cyl, .int .i64 z.heads, .int .i64 (P : Int), .int .i64 z.size, .slice X N' c] 32)).alloc (.cells #[.slice Y ly cy] 35)) (w5.heap.size + 1) [.slice Y ly cy] := by
      have := Row.alloc (w5.alloc (.cells #[.int .i64 z.cyl, .int .i64 z.heads, .int .i64 (P : Int), .int .i64 z.size, .slice X N' c] 32)) #[.slice Y ly cy] 35
      simpa using this
    have HX := Lib.hid (OwnL.below (OwnL.base hx (by omega : w.heap.size ≤ w4.heap.size)) Ba)
    have HY := Lib.hid (OwnL.below hy Ba)
    have HBx := Lib.hid ((hb.trans (hb5.mono (by have := hb.size; omega))).trans (Ba.mono (by have := hb.size; omega)))
    have z4' : w.heap.size + 3 ≤ w4.heap.size := by omega
    obtain ⟨K0, K5, K9, R9, Q9, G5, G9⟩ := pair_ret HR2a.out HR3a.out RD RC (by omega) (by omega) (by omega) (by omega) (by omega)
    have v0 := R9 0 _ rfl
    have v1 := R9 1 _ rfl
    have v2 := R9 2 _ rfl
    have v3 := R9 3 _ rfl
    have v4 := R9 4 _ rfl
    have v5 := Q9 0 _ rfl
    have y0 := HR2a.out 0 _ rfl
    have y1 := HR2a.out 1 _ rfl
    have y2 := HR2a.out 2 _ rfl
    have y3 := HR2a.out 3 _ rfl
    have y4 := HR2a.out 4 _ rfl
    have y5 := HR3a.out 0 _ rfl
    have f0 := f2 0
    have f1 := f2 1
    have f4 := f2 4
    have f5 := f3 0
    replace f3 := f2 3
    replace f2 := f2 2
    have K0 := Lib.hid K0
    have K5 := Lib.hid K5
    have K9 := Lib.hid K9
    have HX9 : Hid (SecOwn w.heap.size ((((((((w5.alloc (.cells #[.int .i64 z.cyl, .int .i64 z.heads, .int .i64 (P : Int), .int .i64 z.size, .slice X N' c] 32)).alloc (.cells #[.slice Y ly cy] 35)).setCell ⟨w.heap.size + 1, 0, none⟩ (.int .i64 z.cyl)).setCell ⟨w.heap.size + 1, 1, none⟩ (.int .i64 z.heads)).setCell ⟨w.heap.size + 1, 2, none⟩ (.int .i64 (P : Int))).setCell ⟨w.heap.size + 1, 3, none⟩ (.int .i64 z.size)).setCell ⟨w.heap.size + 1, 4, none⟩ (.slice X N' c)).setCell ⟨w.heap.size + 2, 0, none⟩ (.slice Y ly cy)) (.slice X N' c) (rpS e (zSec m) P N N N)) := Lib.hid (OwnL.base (OwnL.kept (OwnL.kept (OwnL.below hx Ba) G5 (.inr (own_far hx (by omega)))) G9 (.inr (own_far hx (by omega)))) (by omega))
    have HY9 : Hid (OwnL Src.cells 3 49 K ((((((((w5.alloc (.cells #[.int .i64 z.cyl, .int .i64 z.heads, .int .i64 (P : Int), .int .i64 z.size, .slice X N' c] 32)).alloc (.cells #[.slice Y ly cy] 35)).setCell ⟨w.heap.size + 1, 0, none⟩ (.int .i64 z.cyl)).setCell ⟨w.heap.size + 1, 1, none⟩ (.int .i64 z.heads)).setCell ⟨w.heap.size + 1, 2, none⟩ (.int .i64 (P : Int))).setCell ⟨w.heap.size + 1, 3, none⟩ (.int .i64 z.size)).setCell ⟨w.heap.size + 1, 4, none⟩ (.slice X N' c)).setCell ⟨w.heap.size + 2, 0, none⟩ (.slice Y ly cy)) (.slice Y ly cy) (rpY e (zSec m) P N)) := Lib.hid (OwnL.kept (OwnL.kept HY.out G5 (.inr (own_far hy (by omega)))) G9 (.inr (own_far hy (by omega))))
    have HB9 : Hid (Below w.heap.size w ((((((((w5.alloc (.cells #[.int .i64 z.cyl, .int .i64 z.heads, .int .i64 (P : Int), .int .i64 z.size, .slice X N' c] 32)).alloc (.cells #[.slice Y ly cy] 35)).setCell ⟨w.heap.size + 1, 0, none⟩ (.int .i64 z.cyl)).setCell ⟨w.heap.size + 1, 1, none⟩ (.int .i64 z.heads)).setCell ⟨w.heap.size + 1, 2, none⟩ (.int .i64 (P : Int))).setCell ⟨w.heap.size + 1, 3, none⟩ (.int .i64 z.size)).setCell ⟨w.heap.size + 1, 4, none⟩ (.slice X N' c)).setCell ⟨w.heap.size + 2, 0, none⟩ (.slice Y ly cy))) := Lib.hid (Below.setCell (Below.setCell (Below.setCell (Below.setCell (Below.setCell (Below.setCell HBx.out (Nat.le_succ _) _) (Nat.le_succ _) _) (Nat.le_succ _) _) (Nat.le_succ _) _) (Nat.le_succ _) _) (by show w.heap.size ≤ w.heap.size + 2; omega) _)
    clear R9 Q9 G5 G9 HX HY HBx RD RC HR2a HR3a Ba RE4 l0 l1 l2 l3 hx hy
    go_wp2_with (fail)
    go_region_held3 (fun w' => w'.cell? ⟨w5.heap.size, 0, none⟩ = some (.int .i64 z.cyl) ∧ w'.cell? ⟨w5.heap.size, 1, none⟩ = some (.int .i64 z.heads) ∧ w'.cell? ⟨w5.heap.size, 2, none⟩ = some (.int .i64 (P : Int)) ∧ w'.cell? ⟨w5.heap.size, 3, none⟩ = some (.int .i64 z.size) ∧ w'.cell? ⟨w5.heap.size, 4, none⟩ = some (.slice X N' c) ∧ w'.cell? ⟨w5.heap.size + 1, 0, none⟩ = some (.slice Y ly cy))
      (first | with_reducible exact K0.out | with_reducible exact K5.out | with_reducible exact K9.out)
      (fail)
    go_wp2_with (fail)
    generalize ((((((((w5.alloc (.cells #[.int .i64 z.cyl, .int .i64 z.heads, .int .i64 (P : Int), .int .i64 z.size, .slice X N' c] 32)).alloc (.cells #[.slice Y ly cy] 35)).setCell ⟨w.heap.size + 1, 0, none⟩ (.int .i64 z.cyl)).setCell ⟨w.heap.size + 1, 1, none⟩ (.int .i64 z.heads)).setCell ⟨w.heap.size + 1, 2, none⟩ (.int .i64 (P : Int))).setCell ⟨w.heap.size + 1, 3, none⟩ (.int .i64 z.size)).setCell ⟨w.heap.size + 1, 4, none⟩ (.slice X N' c)).setCell ⟨w.heap.size + 2, 0, none⟩ (.slice Y ly cy)) = W9 at *
    exact bodyPost_ret (v := .tuple #[.agg #[.int .i64 z.cyl, .int .i64 z.heads, .int .i64 (P : Int), .int .i64 z.size, .slice X N' c], .agg #[.slice Y ly cy], .int .i64 0]) (by simp [results, Tryz.results6, go_sem, v0, v1, v2, v3, v4, v5] <;> rfl) rfl ⟨_, _, rfl, HX9.out, K, hxk, by omega, HY9.out, HB9.out.drew⟩
end Go.Proofs.YtddihmpiaemadaaGreatDoor
namespace Go.Proofs.YtddihmpiaemadaaGreatDoor
set_option linter.unusedVariables false
set_option linter.unusedSimpArgs false
open Go.RowKit
/-- what the solver answers has the check value -/
theorem sb_fits {s : ByteArray} {l : List Int} {c : Int} (h : (sbE s l c).2 = 0) : ((crcB (sbE s l c).1 : Nat) : Int) = c := by
  unfold sbE at h ⊢
  by_cases hok : sbOk s l c = true
  · rw [if_pos hok] at h ⊢
    unfold sbOk at hok
    simp only [Bool.and_eq_true, decide_eq_true_eq] at hok
    obtain ⟨⟨h1, h2⟩, h3, h4⟩ := hok
    have hs := inB_yes h1
    have hc := inB_yes h2
    obtain ⟨pl, rfl, hpm, hps⟩ := places_nat h3
    obtain ⟨c', rfl⟩ : ∃ c' : Nat, c = c' := ⟨c.toNat, by omega⟩
    rw [intsN_back, Int.toNat_natCast] at h ⊢
    have hpl8 : pl.length ≤ 8 := by have := intsN_len pl; omega
    rw [intsN_len] at h ⊢
    have hUb : ∀ b ∈ exN pl (8 * pl.length), b < 8 * (bts s).length := fun b hb => by rw [bts_len]; exact exN_mem hpm hb
    have hU64 : (exN pl (8 * pl.length)).length ≤ 64 := by rw [exN_len]; omega
    have hclt : c' < 65536 := by omega
    generalize exN pl (8 * pl.length) = U at *
    cases ho : redS (rowsOf s U c') with
    | none => rw [ho] at h; unfold sbR at h; simp at h
    | some b =>
      rw [ho] at h
      unfold sbR at h ⊢
      by_cases hb : b.length < U.length
      · simp only [if_pos hb] at h; cases h
      · simp only [if_neg hb]
        have hrw : rowsOf s U c' = rowsR (bts s).length U (crcN (clrN (bts s) U) 65535 ^^^ c') := by unfold rowsOf restOf; rw [bts_len]
        rw [hrw] at ho
        obtain ⟨k1, _, k3, k4, k5⟩ := redS_ok hU64 (rowsR_lt (bts s).length U (crcN (clrN (bts s) U) 65535 ^^^ c')) ho
        have hf := (fill_sol hUb hU64 hclt _).1 ((k4 _).1 (comp_sol k1 fun k _ => Nat.zero_testBit k))
        unfold crcB
        rw [crcN_strN, hf]
  · rw [if_neg hok] at h
    cases h
theorem fid_fit {cr : List Int} {k j : Nat} {s : ByteArray} : ∀ {ds : List Dsc} {i : Nat}, firD cr k i ds = some (j, s) → fitB cr k s = true := by
  intro ds
  induction ds with
  | nil => intro i h; cases h
  | cons d r ih =>
    intro i h
    unfold firD at h
    split at h
    · rename_i hh
      rw [Bool.and_eq_true] at hh
      injection h with h
      injection h with _ h
      rw [← h]; exact hh.2
    · exact ih h
/-- a repaired sector -/
structure RpF (e : Evd) (k : Nat) (t : Sec) : Prop where
  good : rpOk e k = true → t.state = 1
  size : t.data.size ≤ 64
  fit : t.state = 1 → 0 ≤ e.cr.getD k 0 → ((crcB t.data : Nat) : Int) = e.cr.getD k 0
end Go.Proofs.YtddihmpiaemadaaGreatDoor
namespace Go.Proofs.YtddihmpiaemadaaGreatDoor
set_option linter.unusedVariables false
set_option linter.unusedSimpArgs false
open Go.RowKit
/-- a sector has a source exactly if it is good -/
def cvS (s : Sec) (kd : Int) : Bool := (s.state == 1 || s.state == 3) && ((kd != 0) == (s.state == 1))
def covB (d : Dsc) (l : List Src) (k : Nat) : Bool := cvS (d.secs.getD k ⟨.empty, 0⟩) (kinN (k : Int) l)
def chkC (e : Evd) (d : Dsc) (l : List Src) : Bool := askB e d l && ((List.range d.secs.length).all (covB d l) && l.all (srcC e d l))
theorem cov_at {d : Dsc} {l : List Src} {k : Nat} {s : Sec} (hs : d.secs[k]? = some s) : covB d l k = cvS s (kinN (k : Int) l) := by
  unfold covB; rw [List.getD_eq_getElem?_getD, hs]; rfl
theorem ck_no1 {e : Evd} {d : Dsc} {l : List Src} (h : askB e d l = false) : chkC e d l = false := by unfold chkC; rw [h]; rfl
theorem ck_no2 {e : Evd} {d : Dsc} {l : List Src} {k : Nat} (hk : k < d.secs.length) (h : covB d l k = false) : chkC e d l = false := by
  have : (List.range d.secs.length).all (covB d l) = false := by
    rw [← Bool.not_eq_true, List.all_eq_true]
    intro hh
    have := hh k (List.mem_range.2 hk)
    rw [h] at this; cases this
  unfold chkC; rw [this, Bool.false_and, Bool.and_false]
theorem ck_no3 {e : Evd} {d : Dsc} {l : List Src} {s : Src} (hs : s ∈ l) (h : srcC e d l s = false) : chkC e d l = false := by
  have : l.all (srcC e d l) = false := by
    rw [← Bool.not_eq_true, List.all_eq_true]
    intro hh
    have := hh s hs
    rw [h] at this; cases this
  unfold chkC; rw [this, Bool.and_false, Bool.and_false]
theorem ck_yes {e : Evd} {d : Dsc} {l : List Src} (h : askB e d l = true) (h1 : ∀ k, k < d.secs.length → covB d l k = true) (h2 : ∀ (i : Nat) (s : Src), l[i]? = some s → srcC e d l s = true) : chkC e d l = true := by
  have a1 : (List.range d.secs.length).all (covB d l) = true := List.all_eq_true.2 fun k hk => h1 k (List.mem_range.1 hk)
  have a2 : l.all (srcC e d l) = true := List.all_eq_true.2 fun s hs => by
    obtain ⟨i, hi⟩ := List.getElem?_of_mem hs
    exact h2 i s hi
  unfold chkC; rw [h, a1, a2]; rfl
/-- the sources of the first sectors -/
def srcN (l : List Src) (k : Nat) : Nat := l.countP fun s => decide (s.sector < (k : Int))
end Go.Proofs.YtddihmpiaemadaaGreatDoor
namespace Go.Proofs.YtddihmpiaemadaaGreatDoor
set_option linter.unusedVariables false
set_option linter.unusedSimpArgs false
open Go.RowKit
structure LosW (w : World) (bd : Nat) (D5 : List Value) (x : Value) (S : List Sec) (M : Nat → Bool) (wx : World) (out : Value) (q : Nat) : Prop where
  bw : Below w.heap.size w wx
  l : Int64L w.heap.size wx out (fltN M q)
  d : Row wx bd D5
  s : SecOwn w.heap.size wx x S
  hd : out.ownBlock ≠ some bd
  hs : ∀ k, out.ownBlock = some k → x.ownBlock ≠ some k
  lt : bd < wx.heap.size
section
variable {w wx w' : World} {bd q : Nat} {D5 : List Value} {x out v' : Value} {S : List Sec} {M : Nat → Bool}
theorem LosW.below (h : LosW w bd D5 x S M wx out q) (hb : Below wx.heap.size wx w') : LosW w bd D5 x S M w' out q :=
  ⟨h.bw.trans (hb.mono h.bw.size), OwnL.below h.l hb, h.d.below hb h.lt, OwnL.below h.s hb, h.hd, h.hs, Nat.lt_of_lt_of_le h.lt hb.size⟩
theorem LosW.no (h : LosW w bd D5 x S M wx out q) (hM : M q = false) : LosW w bd D5 x S M wx out (q + 1) :=
  ⟨h.bw, by rw [← (flt_no (P := M) (n := q) (Lib.hid rfl) hM).out]; exact h.l, h.d, h.s, h.hd, h.hs, h.lt⟩
theorem LosW.app (h : LosW w bd D5 x S M wx out q) (hw : w.heap.size ≤ wx.heap.size) (hg : wx.grownBy w' out.ownBlock) (hl : Int64L w.heap.size w' v' (fltN M q ++ [(q : Int)])) (hat : v'.ownBlock = out.ownBlock ∨ v'.ownBlock = some wx.heap.size) (hM : M q = true) : LosW w bd D5 x S M w' v' (q + 1) :=
  ⟨h.bw.grown hg hw (fun k hk => (World.ownsRow.lt h.l k hk).1), by rw [← (flt_yes (P := M) (n := q) (Lib.hid rfl) hM).out]; exact hl, grown_row hg h.lt h.hd h.d, OwnL.kept h.s hg (sep_row h.hs), nob_at hat h.hd h.lt, fun k hk e0 => by
    rcases hat with e | e
    · exact h.hs k (e.symm.trans hk) e0
    · rw [hk] at e; injection e with e; have := (World.ownsRow.lt h.s k e0).2; omega, Nat.lt_of_lt_of_le h.lt hg.size⟩
theorem rdM_at {e : Evd} {k : Nat} {s : Sec} (h : (rdS e)[k]? = some s) : rdM e k = (s.state == 3) := by
  unfold rdM; rw [List.getD_eq_getElem?_getD, h]; rfl
end
end Go.Proofs.YtddihmpiaemadaaGreatDoor
