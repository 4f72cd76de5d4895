/- RepairDisc, the implementation: the walk. Repaired sectors fit their checks: the plain law. -/
import Derived.Test.YtfcdienphillnaaGreatRd33
import Derived.Test.YtfcdienphillnaaGreatRd34
import Derived.Test.YtfcdienphillnaaGreatRd18
namespace Go.Proofs.YtfcdienphillnaaGreat
set_option linter.unusedVariables false
set_option linter.unusedSimpArgs false
open Go.RowKit
set_option maxRecDepth 20000 in
set_option maxHeartbeats 8000000 in
theorem rpd_i (B : Nat) (e : Evd) (va vb vc vd : Value) (w : World) (h : EvOwn B w e va vb vc vd) (hs : EvSmall e) :
    Calls Tryz.prog 28 #[evV va vb vc vd] w fun r w' => ∃ x y K, r = .returned (.tuple #[dscV (rdD e) x, .agg #[y], .int .i64 (rdC e)]) ∧ SecOwn w.heap.size w' x (rdD e).secs ∧ (∀ g, x.ownBlock = some g → g < K) ∧ w.heap.size ≤ K ∧ OwnL Src.cells 3 83 K w' y (rdY e) ∧ Below w.heap.size w w' := by
  have H0 := Lib.hid h
  obtain ⟨A, n, B', kk, C, i, D, j, rfl, rfl, rfl, rfl⟩ := h.shape
  obtain ⟨RE, R2, R3, HBZ, zz⟩ := boxes3 w #[.slice A e.ds.length n, .slice B' e.cr.length kk, .slice C e.p.length i, .slice D e.q.length j] #[.int .i64 0, .int .i64 0, .int .i64 0, .int .i64 0, .slice none 0 0] #[.slice none 0 0] 39 43 47
  have s1 : (w.alloc (.cells #[.slice A e.ds.length n, .slice B' e.cr.length kk, .slice C e.p.length i, .slice D e.q.length j] 39)).heap.size = w.heap.size + 1 := by simp
  have s2 : ((w.alloc (.cells #[.slice A e.ds.length n, .slice B' e.cr.length kk, .slice C e.p.length i, .slice D e.q.length j] 39)).alloc (.cells #[.int .i64 0, .int .i64 0, .int .i64 0, .int .i64 0, .slice none 0 0] 43)).heap.size = w.heap.size + 2 := by simp
  have F2 : ∀ o, ((((w.alloc (.cells #[.slice A e.ds.length n, .slice B' e.cr.length kk, .slice C e.p.length i, .slice D e.q.length j] 39)).alloc (.cells #[.int .i64 0, .int .i64 0, .int .i64 0, .int .i64 0, .slice none 0 0] 43)).alloc (.cells #[.slice none 0 0] 47))).frozen? ⟨w.heap.size + 1, o, none⟩ = false := fun o => frozen_below (fun o => by rw [← s1]; exact frozen_alloc (w.alloc (.cells #[.slice A e.ds.length n, .slice B' e.cr.length kk, .slice C e.p.length i, .slice D e.q.length j] 39)) #[.int .i64 0, .int .i64 0, .int .i64 0, .int .i64 0, .slice none 0 0] 43 o) (Below.alloc (Below.refl _ _) (Nat.le_refl _) _) (by omega) o
  have F3 : ∀ o, ((((w.alloc (.cells #[.slice A e.ds.length n, .slice B' e.cr.length kk, .slice C e.p.length i, .slice D e.q.length j] 39)).alloc (.cells #[.int .i64 0, .int .i64 0, .int .i64 0, .int .i64 0, .slice none 0 0] 43)).alloc (.cells #[.slice none 0 0] 47))).frozen? ⟨w.heap.size + 2, o, none⟩ = false := fun o => by rw [← s2]; exact frozen_alloc _ _ _ o
  have HV := Lib.hid (ev_i B e _ _ _ _ (((w.alloc (.cells #[.slice A e.ds.length n, .slice B' e.cr.length kk, .slice C e.p.length i, .slice D e.q.length j] 39)).alloc (.cells #[.int .i64 0, .int .i64 0, .int .i64 0, .int .i64 0, .slice none 0 0] 43)).alloc (.cells #[.slice none 0 0] 47)) (h.below HBZ) hs)
  have l0 := RE 0 _ rfl
  have l1 := RE 1 _ rfl
  have l2 := RE 2 _ rfl
  have l3 := RE 3 _ rfl
  have HRE := Lib.hid RE
  have HR2 := Lib.hid R2
  have HR3 := Lib.hid R3
  have HF2 := Lib.hid F2
  have HF3 := Lib.hid F3
  have HB := Lib.hid HBZ
  clear h RE R2 R3 F2 F3 HBZ
  go_enter Tryz.func28, Tryz.ntmps28
  cases hok : evOk e
  · rw [hok] at HV
    have hD : rdD e = ⟨0, 0, 0, 0, []⟩ := by unfold rdD; rw [hok]; rfl
    have hY : rdY e = [] := by unfold rdY; rw [hok]; rfl
    have hC : rdC e = 1 := by unfold rdC; rw [hok]; rfl
    rw [hD, hY, hC]
    clear hD hY hC
    go_wp2_with (fail)
    generalize (((w.alloc (.cells #[.slice A e.ds.length n, .slice B' e.cr.length kk, .slice C e.p.length i, .slice D e.q.length j] 39)).alloc (.cells #[.int .i64 0, .int .i64 0, .int .i64 0, .int .i64 0, .slice none 0 0] 43)).alloc (.cells #[.slice none 0 0] 47)) = w0 at *
    refine HV.out.mono ?_; rintro r w4 ⟨rfl, hb4⟩
    have HR2a := Lib.hid (HR2.out.below hb4 (by omega))
    have HR3a := Lib.hid (HR3.out.below hb4 (by omega))
    have hb := HB.out.trans (hb4.mono (by omega))
    have y0 := HR2a.out 0 _ rfl
    have y1 := HR2a.out 1 _ rfl
    have y2 := HR2a.out 2 _ rfl
    have y3 := HR2a.out 3 _ rfl
    have y4 := HR2a.out 4 _ rfl
    have y5 := HR3a.out 0 _ rfl
    have f0 := frozen_below HF2.out hb4 (by omega) 0
    have f1 := frozen_below HF2.out hb4 (by omega) 1
    have f2 := frozen_below HF2.out hb4 (by omega) 2
    have f3 := frozen_below HF2.out hb4 (by omega) 3
    have f4 := frozen_below HF2.out hb4 (by omega) 4
    have f5 := frozen_below HF3.out hb4 (by omega) 0
    have hne2 : w.heap.size + 1 ≠ w.heap.size + 2 := by omega
    have hne3 : w.heap.size + 2 ≠ w.heap.size + 1 := by omega
    have R9 := (set5_row HR2a.out (.int .i64 0) (.int .i64 0) (.int .i64 0) (.int .i64 0) (.slice none 0 0)).set_other (g := w.heap.size + 2) (o := 0) (.slice none 0 0) hne2
    have Q9 := (((((HR3a.out.set_other (g := w.heap.size + 1) (o := 0) (.int .i64 0) hne3).set_other (g := w.heap.size + 1) (o := 1) (.int .i64 0) hne3).set_other (g := w.heap.size + 1) (o := 2) (.int .i64 0) hne3).set_other (g := w.heap.size + 1) (o := 3) (.int .i64 0) hne3).set_other (g := w.heap.size + 1) (o := 4) (.slice none 0 0) hne3).set (o := 0) (.slice none 0 0) (by simp)
    have v0 := R9 0 _ rfl
    have v1 := R9 1 _ rfl
    have v2 := R9 2 _ rfl
    have v3 := R9 3 _ rfl
    have v4 := R9 4 _ rfl
    have v5 := Q9 0 _ rfl
    have HBW : Hid (Below w.heap.size w ((((((w4.setCell ⟨w.heap.size + 1, 0, none⟩ (.int .i64 0)).setCell ⟨w.heap.size + 1, 1, none⟩ (.int .i64 0)).setCell ⟨w.heap.size + 1, 2, none⟩ (.int .i64 0)).setCell ⟨w.heap.size + 1, 3, none⟩ (.int .i64 0)).setCell ⟨w.heap.size + 1, 4, none⟩ (.slice none 0 0)).setCell ⟨w.heap.size + 2, 0, none⟩ (.slice none 0 0))) := Lib.hid (Below.setCell (Below.setCell (Below.setCell (Below.setCell (Below.setCell (Below.setCell hb (Nat.le_succ _) _) (Nat.le_succ _) _) (Nat.le_succ _) _) (Nat.le_succ _) _) (Nat.le_succ _) _) (by show w.heap.size ≤ w.heap.size + 2; omega) _)
    clear R9 Q9 hne2 hne3 HR2a HR3a
    go_wp2_with (fail)
    generalize ((((((w4.setCell ⟨w.heap.size + 1, 0, none⟩ (.int .i64 0)).setCell ⟨w.heap.size + 1, 1, none⟩ (.int .i64 0)).setCell ⟨w.heap.size + 1, 2, none⟩ (.int .i64 0)).setCell ⟨w.heap.size + 1, 3, none⟩ (.int .i64 0)).setCell ⟨w.heap.size + 1, 4, none⟩ (.slice none 0 0)).setCell ⟨w.heap.size + 2, 0, none⟩ (.slice none 0 0)) = W9 at *
    exact bodyPost_ret (v := .tuple #[.agg #[.int .i64 0, .int .i64 0, .int .i64 0, .int .i64 0, .slice none 0 0], .agg #[.slice none 0 0], .int .i64 1]) (by simp [results, Tryz.results28, go_sem, v0, v1, v2, v3, v4, v5] <;> rfl) rfl ⟨.slice none 0 0, .slice none 0 0, rfl, OwnL.of_nil, w.heap.size, (fun g hg => nomatch hg), Nat.le_refl _, OwnL.of_nil, HBW.out⟩
  · obtain ⟨z, P, m, T, N, F⟩ := rd_f hok
    rw [hok] at HV
    have hD : rdD e = ⟨z.cyl, z.heads, (P : Int), z.size, rpS e (zSec m) P N N N⟩ := by unfold rdD; rw [hok, F.hz, F.hs, F.hp]; rfl
    have hY : rdY e = rpY e (zSec m) P N := by unfold rdY; rw [hok, F.hx]; rfl
    have hC : rdC e = 0 := by unfold rdC; rw [hok]; rfl
    have HREP := Lib.hid (fun (w' : World) (hb : Below w.heap.size w w') => rep_i B e _ _ _ _ z P m T N F.f F.hn w' (H0.out.below hb))
    rw [hD, hY, hC]
    clear hD hY hC hok
    go_wp2_with (fail)
    generalize (((w.alloc (.cells #[.slice A e.ds.length n, .slice B' e.cr.length kk, .slice C e.p.length i, .slice D e.q.length j] 39)).alloc (.cells #[.int .i64 0, .int .i64 0, .int .i64 0, .int .i64 0, .slice none 0 0] 43)).alloc (.cells #[.slice none 0 0] 47)) = w0 at *
    refine HV.out.mono ?_; rintro r w4 ⟨rfl, hb4⟩
    have hb := HB.out.trans (hb4.mono (by omega))
    have z4 := hb4.size
    have RE4 := HRE.out.below hb4 (by omega)
    have l0 := RE4 0 _ rfl
    have l1 := RE4 1 _ rfl
    have l2 := RE4 2 _ rfl
    have l3 := RE4 3 _ rfl
    go_wp2_with (fail)
    refine (HREP.out w4 hb).mono ?_; rintro r w5 ⟨x, y, K, rfl, hx, hxk, hwk, hy, hb5⟩
    obtain ⟨X, N', c, rfl⟩ := own_slice hx
    obtain ⟨Y, ly, cy, rfl⟩ := own_slice hy
    have Ba : Below w5.heap.size w5 ((w5.alloc (.cells #[.int .i64 z.cyl, .int .i64 z.heads, .int .i64 (P : Int), .int .i64 z.size, .slice X N' c] 43)).alloc (.cells #[.slice Y ly cy] 47)) := Below.alloc (Below.alloc (Below.refl _ _) (Nat.le_refl _) _) (by simp) _
    have z5 := hb5.size
    have HR2a := Lib.hid ((HR2.out.below hb4 (by omega)).below (hb5.trans (Ba.mono z5)) (by omega))
    have HR3a := Lib.hid ((HR3.out.below hb4 (by omega)).below (hb5.trans (Ba.mono z5)) (by omega))
    have f2 := frozen_below (frozen_below HF2.out hb4 (by omega)) (hb5.trans (Ba.mono z5)) (by omega)
    have f3 := frozen_below (frozen_below HF3.out hb4 (by omega)) (hb5.trans (Ba.mono z5)) (by omega)
    have RD : Row ((w5.alloc (.cells #[.int .i64 z.cyl, .int .i64 z.heads, .int .i64 (P : Int), .int .i64 z.size, .slice X N' c] 43)).alloc (.cells #[.slice Y ly cy] 47)) w5.heap.size [.int .i64 z.cyl, .int .i64 z.heads, .int .i64 (P : Int), .int .i64 z.size, .slice X N' c] := (Row.alloc w5 #[.int .i64 z.cyl, .int .i64 z.heads, .int .i64 (P : Int), .int .i64 z.size, .slice X N' c] 43).below (Below.alloc (Below.refl _ _) (Nat.le_refl _) _) (by simp)
    have RC : Row ((w5.alloc (.cells #[.int .i64 z.cyl, .int .i64 z.heads, .int .i64 (P : Int), .int .i64 z.size, .slice X N' c] 43)).alloc (.cells #[.slice Y ly cy] 47)) (w5.heap.size + 1) [.slice Y ly cy] := by
      have := Row.alloc (w5.alloc (.cells #[.int .i64 z.cyl, .int .i64 z.heads, .int .i64 (P : Int), .int .i64 z.size, .slice X N' c] 43)) #[.slice Y ly cy] 47
      simpa using this
    have HX := Lib.hid (OwnL.below (OwnL.base hx (by omega : w.heap.size ≤ w4.heap.size)) Ba)
    have HY := Lib.hid (OwnL.below hy Ba)
    have HBx := Lib.hid ((hb.trans (hb5.mono (by have := hb.size; omega))).trans (Ba.mono (by have := hb.size; omega)))
    have z4' : w.heap.size + 3 ≤ w4.heap.size := by omega
    obtain ⟨K0, K5, K9, R9, Q9, G5, G9⟩ := pair_ret HR2a.out HR3a.out RD RC (by omega) (by omega) (by omega) (by omega) (by omega)
    have v0 := R9 0 _ rfl
    have v1 := R9 1 _ rfl
    have v2 := R9 2 _ rfl
    have v3 := R9 3 _ rfl
    have v4 := R9 4 _ rfl
    have v5 := Q9 0 _ rfl
    have y0 := HR2a.out 0 _ rfl
    have y1 := HR2a.out 1 _ rfl
    have y2 := HR2a.out 2 _ rfl
    have y3 := HR2a.out 3 _ rfl
    have y4 := HR2a.out 4 _ rfl
    have y5 := HR3a.out 0 _ rfl
    have f0 := f2 0
    have f1 := f2 1
    have f4 := f2 4
    have f5 := f3 0
    replace f3 := f2 3
    replace f2 := f2 2
    have K0 := Lib.hid K0
    have K5 := Lib.hid K5
    have K9 := Lib.hid K9
    have HX9 : Hid (SecOwn w.heap.size ((((((((w5.alloc (.cells #[.int .i64 z.cyl, .int .i64 z.heads, .int .i64 (P : Int), .int .i64 z.size, .slice X N' c] 43)).alloc (.cells #[.slice Y ly cy] 47)).setCell ⟨w.heap.size + 1, 0, none⟩ (.int .i64 z.cyl)).setCell ⟨w.heap.size + 1, 1, none⟩ (.int .i64 z.heads)).setCell ⟨w.heap.size + 1, 2, none⟩ (.int .i64 (P : Int))).setCell ⟨w.heap.size + 1, 3, none⟩ (.int .i64 z.size)).setCell ⟨w.heap.size + 1, 4, none⟩ (.slice X N' c)).setCell ⟨w.heap.size + 2, 0, none⟩ (.slice Y ly cy)) (.slice X N' c) (rpS e (zSec m) P N N N)) := Lib.hid (OwnL.base (OwnL.kept (OwnL.kept (OwnL.below hx Ba) G5 (.inr (own_far hx (by omega)))) G9 (.inr (own_far hx (by omega)))) (by omega))
    have HY9 : Hid (OwnL Src.cells 3 83 K ((((((((w5.alloc (.cells #[.int .i64 z.cyl, .int .i64 z.heads, .int .i64 (P : Int), .int .i64 z.size, .slice X N' c] 43)).alloc (.cells #[.slice Y ly cy] 47)).setCell ⟨w.heap.size + 1, 0, none⟩ (.int .i64 z.cyl)).setCell ⟨w.heap.size + 1, 1, none⟩ (.int .i64 z.heads)).setCell ⟨w.heap.size + 1, 2, none⟩ (.int .i64 (P : Int))).setCell ⟨w.heap.size + 1, 3, none⟩ (.int .i64 z.size)).setCell ⟨w.heap.size + 1, 4, none⟩ (.slice X N' c)).setCell ⟨w.heap.size + 2, 0, none⟩ (.slice Y ly cy)) (.slice Y ly cy) (rpY e (zSec m) P N)) := Lib.hid (OwnL.kept (OwnL.kept HY.out G5 (.inr (own_far hy (by omega)))) G9 (.inr (own_far hy (by omega))))
    have HB9 : Hid (Below w.heap.size w ((((((((w5.alloc (.cells #[.int .i64 z.cyl, .int .i64 z.heads, .int .i64 (P : Int), .int .i64 z.size, .slice X N' c] 43)).alloc (.cells #[.slice Y ly cy] 47)).setCell ⟨w.heap.size + 1, 0, none⟩ (.int .i64 z.cyl)).setCell ⟨w.heap.size + 1, 1, none⟩ (.int .i64 z.heads)).setCell ⟨w.heap.size + 1, 2, none⟩ (.int .i64 (P : Int))).setCell ⟨w.heap.size + 1, 3, none⟩ (.int .i64 z.size)).setCell ⟨w.heap.size + 1, 4, none⟩ (.slice X N' c)).setCell ⟨w.heap.size + 2, 0, none⟩ (.slice Y ly cy))) := Lib.hid (Below.setCell (Below.setCell (Below.setCell (Below.setCell (Below.setCell (Below.setCell HBx.out (Nat.le_succ _) _) (Nat.le_succ _) _) (Nat.le_succ _) _) (Nat.le_succ _) _) (Nat.le_succ _) _) (by show w.heap.size ≤ w.heap.size + 2; omega) _)
    clear R9 Q9 G5 G9 HX HY HBx RD RC HR2a HR3a Ba RE4 l0 l1 l2 l3 hx hy
    go_wp2_with (fail)
    go_region_held3 (fun w' => w'.cell? ⟨w5.heap.size, 0, none⟩ = some (.int .i64 z.cyl) ∧ w'.cell? ⟨w5.heap.size, 1, none⟩ = some (.int .i64 z.heads) ∧ w'.cell? ⟨w5.heap.size, 2, none⟩ = some (.int .i64 (P : Int)) ∧ w'.cell? ⟨w5.heap.size, 3, none⟩ = some (.int .i64 z.size) ∧ w'.cell? ⟨w5.heap.size, 4, none⟩ = some (.slice X N' c) ∧ w'.cell? ⟨w5.heap.size + 1, 0, none⟩ = some (.slice Y ly cy))
      (first | with_reducible exact K0.out | with_reducible exact K5.out | with_reducible exact K9.out)
      (fail)
    go_wp2_with (fail)
    generalize ((((((((w5.alloc (.cells #[.int .i64 z.cyl, .int .i64 z.heads, .int .i64 (P : Int), .int .i64 z.size, .slice X N' c] 43)).alloc (.cells #[.slice Y ly cy] 47)).setCell ⟨w.heap.size + 1, 0, none⟩ (.int .i64 z.cyl)).setCell ⟨w.heap.size + 1, 1, none⟩ (.int .i64 z.heads)).setCell ⟨w.heap.size + 1, 2, none⟩ (.int .i64 (P : Int))).setCell ⟨w.heap.size + 1, 3, none⟩ (.int .i64 z.size)).setCell ⟨w.heap.size + 1, 4, none⟩ (.slice X N' c)).setCell ⟨w.heap.size + 2, 0, none⟩ (.slice Y ly cy)) = W9 at *
    exact bodyPost_ret (v := .tuple #[.agg #[.int .i64 z.cyl, .int .i64 z.heads, .int .i64 (P : Int), .int .i64 z.size, .slice X N' c], .agg #[.slice Y ly cy], .int .i64 0]) (by simp [results, Tryz.results28, go_sem, v0, v1, v2, v3, v4, v5] <;> rfl) rfl ⟨_, _, rfl, HX9.out, K, hxk, by omega, HY9.out, HB9.out.drew⟩
end Go.Proofs.YtfcdienphillnaaGreat
namespace Go.Proofs.YtfcdienphillnaaGreat
set_option linter.unusedVariables false
set_option linter.unusedSimpArgs false
open Go.RowKit
/-- what the solver answers has the check value -/
theorem sb_fits {s : ByteArray} {l : List Int} {c : Int} (h : (sbE s l c).2 = 0) : ((crcB (sbE s l c).1 : Nat) : Int) = c := by
  unfold sbE at h ⊢
  by_cases hok : sbOk s l c = true
  · rw [if_pos hok] at h ⊢
    unfold sbOk at hok
    simp only [Bool.and_eq_true, decide_eq_true_eq] at hok
    obtain ⟨⟨h1, h2⟩, h3, h4⟩ := hok
    have hs := inB_yes h1
    have hc := inB_yes h2
    obtain ⟨pl, rfl, hpm, hps⟩ := places_nat h3
    obtain ⟨c', rfl⟩ : ∃ c' : Nat, c = c' := ⟨c.toNat, by omega⟩
    rw [intsN_back, Int.toNat_natCast] at h ⊢
    have hpl8 : pl.length ≤ 8 := by have := intsN_len pl; omega
    rw [intsN_len] at h ⊢
    have hUb : ∀ b ∈ exN pl (8 * pl.length), b < 8 * (bts s).length := fun b hb => by rw [bts_len]; exact exN_mem hpm hb
    have hU64 : (exN pl (8 * pl.length)).length ≤ 64 := by rw [exN_len]; omega
    have hclt : c' < 65536 := by omega
    generalize exN pl (8 * pl.length) = U at *
    cases ho : redS (rowsOf s U c') with
    | none => rw [ho] at h; unfold sbR at h; simp at h
    | some b =>
      rw [ho] at h
      unfold sbR at h ⊢
      by_cases hb : b.length < U.length
      · simp only [if_pos hb] at h; cases h
      · simp only [if_neg hb]
        have hrw : rowsOf s U c' = rowsR (bts s).length U (crcN (clrN (bts s) U) 65535 ^^^ c') := by unfold rowsOf restOf; rw [bts_len]
        rw [hrw] at ho
        obtain ⟨k1, _, k3, k4, k5⟩ := redS_ok hU64 (rowsR_lt (bts s).length U (crcN (clrN (bts s) U) 65535 ^^^ c')) ho
        have hf := (fill_sol hUb hU64 hclt _).1 ((k4 _).1 (comp_sol k1 fun k _ => Nat.zero_testBit k))
        unfold crcB
        rw [crcN_strN, hf]
  · rw [if_neg hok] at h
    cases h
theorem fid_fit {cr : List Int} {k j : Nat} {s : ByteArray} : ∀ {ds : List Dsc} {i : Nat}, firD cr k i ds = some (j, s) → fitB cr k s = true := by
  intro ds
  induction ds with
  | nil => intro i h; cases h
  | cons d r ih =>
    intro i h
    unfold firD at h
    split at h
    · rename_i hh
      rw [Bool.and_eq_true] at hh
      injection h with h
      injection h with _ h
      rw [← h]; exact hh.2
    · exact ih h
theorem fid_has {cr : List Int} {k : Nat} : ∀ {ds : List Dsc} {i : Nat} {d : Dsc} {s : Sec}, d ∈ ds → d.secs[k]? = some s → s.state = 1 → fitB cr k s.data = true → ∃ x, firD cr k i ds = some x := by
  intro ds
  induction ds with
  | nil => intro i d s hd; cases hd
  | cons a r ih =>
    intro i d s hd hs h1 hf
    unfold firD
    split
    · exact ⟨_, rfl⟩
    · rename_i hh
      rcases List.mem_cons.1 hd with rfl | hd
      · have e : d.secs.getD k ⟨.empty, 0⟩ = s := by rw [List.getD_eq_getElem?_getD, hs]; rfl
        rw [e, h1, hf] at hh
        exact absurd rfl hh
      · exact ih hd hs h1 hf
theorem fit_known {cr : List Int} {k : Nat} {s : ByteArray} (h : fitB cr k s = true) (h0 : 0 ≤ cr.getD k 0) : ((crcB s : Nat) : Int) = cr.getD k 0 := by
  unfold fitB at h
  rw [Bool.or_eq_true, beq_iff_eq, beq_iff_eq] at h
  rcases h with h | h
  · omega
  · exact h
theorem fir_fit {e : Evd} {k : Nat} (h : rpOk e k = true) (h0 : 0 ≤ e.cr.getD k 0) : ((crcB (firE e k).2.1 : Nat) : Int) = e.cr.getD k 0 := by
  unfold rpOk at h
  cases hd : firD e.cr k 0 e.ds with
  | some x =>
    obtain ⟨i, s⟩ := x
    rw [fir_dump hd]
    exact fit_known (fid_fit hd) h0
  | none =>
    cases hv : ((voteE (rdF k e.ds)).2 && fitB e.cr k (voteE (rdF k e.ds)).1)
    · rw [fir_solve hd hv] at h ⊢
      have h' : (slvE e k).2 = true := h
      show ((crcB (slvE e k).1 : Nat) : Int) = _
      unfold slvE at h' ⊢
      split at h'
      · cases h'
      · rename_i hn
        rw [if_neg hn]
        exact sb_fits (by simpa using h')
    · rw [fir_vote hd hv]
      rw [Bool.and_eq_true] at hv
      exact fit_known hv.2 h0
/-- a sector that is good in some dump and fits has a first source -/
theorem rp_good {e : Evd} {k i : Nat} {d : Dsc} {s : Sec} (hcb : ∀ u ∈ e.cr, inB u (-1) 65535 = true) (hk : k < e.cr.length) (hd : e.ds[i]? = some d) (hs : d.secs[k]? = some s) (h1 : s.state = 1) (hf : e.cr.getD k 0 < 0 ∨ ((crcB s.data : Nat) : Int) = e.cr.getD k 0) : rpOk e k = true := by
  have hfit : fitB e.cr k s.data = true := by
    unfold fitB
    rw [Bool.or_eq_true, beq_iff_eq, beq_iff_eq]
    rcases hf with hf | hf
    · left
      have hm : e.cr.getD k 0 ∈ e.cr := by rw [List.getD_eq_getElem?_getD, List.getElem?_eq_getElem hk]; exact List.getElem_mem hk
      have := inB_yes (hcb _ hm)
      omega
    · exact .inr hf
  obtain ⟨⟨j, x⟩, hx⟩ := fid_has (i := 0) (List.mem_of_getElem? hd) hs h1 hfit
  unfold rpOk
  rw [fir_dump hx]
theorem sb_size (s : ByteArray) (l : List Int) (c : Int) : (sbE s l c).1.size ≤ 64 := by
  unfold sbE
  split
  · rename_i hok
    unfold sbOk at hok
    simp only [Bool.and_eq_true] at hok
    have hs := inB_yes hok.1.1
    unfold sbR
    split
    · exact Nat.zero_le _
    · split
      · exact Nat.zero_le _
      · show (strN _).size ≤ 64
        rw [strN_size, fillN_len, bts_len]; omega
  · exact Nat.zero_le _
theorem fid_size {cr : List Int} {k j m : Nat} {s : ByteArray} : ∀ {ds : List Dsc} {i : Nat}, (∀ d ∈ ds, ∀ t ∈ d.secs, t.data.size = m) → firD cr k i ds = some (j, s) → s.size ≤ m := by
  intro ds
  induction ds with
  | nil => intro i _ h; cases h
  | cons d r ih =>
    intro i hm h
    unfold firD at h
    split at h
    · injection h with h
      injection h with _ h
      rw [← h, List.getD_eq_getElem?_getD]
      cases hk : d.secs[k]? with
      | none => exact Nat.zero_le _
      | some t => exact Nat.le_of_eq (hm d List.mem_cons_self t (List.mem_of_getElem? hk))
    · exact ih (fun d' hd => hm d' (List.mem_cons_of_mem _ hd)) h
theorem fir_size {e : Evd} {z : Dsc} {P m T k : Nat} (F : EvF e z P m T) (hk : k < T * P) : (firE e k).2.1.size ≤ 64 := by
  have hm2 := F.m2
  cases hd : firD e.cr k 0 e.ds with
  | some x =>
    obtain ⟨i, s⟩ := x
    rw [fir_dump hd]
    have : s.size ≤ m := fid_size F.dm hd
    show s.size ≤ 64
    omega
  | none =>
    cases hv : ((voteE (rdF k e.ds)).2 && fitB e.cr k (voteE (rdF k e.ds)).1)
    · rw [fir_solve hd hv]
      show (slvE e k).1.size ≤ 64
      unfold slvE
      split
      · exact Nat.zero_le _
      · exact sb_size _ _ _
    · rw [fir_vote hd hv]
      have := vote_size (rd_size F.dm (k := k) (fun d hd => by rw [F.dss d hd]; exact hk))
      show (voteE (rdF k e.ds)).1.size ≤ 64
      omega
/-- a repaired sector -/
structure RpF (e : Evd) (k : Nat) (t : Sec) : Prop where
  good : rpOk e k = true → t.state = 1
  size : t.data.size ≤ 64
  fit : t.state = 1 → 0 ≤ e.cr.getD k 0 → ((crcB t.data : Nat) : Int) = e.cr.getD k 0
theorem rp_fin {e : Evd} {z : Dsc} {m P T k : Nat} (F : EvF e z P m T) (hk : k < T * P) : RpF e k (rpFin e (zSec m) P k) := by
  have hP := F.p1
  have hm2 := F.m2
  unfold rpFin
  cases h : rpOk e k
  · rw [if_neg (by decide)]
    refine ⟨fun h0 => (by rw [h] at h0; cases h0), ?_, fun h1 h0 => ?_⟩
    · split
      · exact r2_getD _
      · show (strN _).size ≤ 64
        rw [strN_size, List.length_replicate]; omega
    split at h1
    · rename_i hp
      rw [if_pos hp]
      unfold rpP rpA at hp
      rw [Bool.and_eq_true, List.all_eq_true] at hp
      have hkP : k / P * P + k % P = k := by rw [Nat.mul_comm]; exact Nat.div_add_mod k P
      have hmod : k % P < P := Nat.mod_lt _ hP
      have hmem : ((k % P : Nat) : Int) ∈ rpLE e (k / P * P) P := by
        unfold rpLE
        exact flt_has hmod (by rw [hkP, h]; rfl)
      have hfit := hp.2 _ hmem
      unfold rpF at hfit
      rw [Int.toNat_natCast, hkP] at hfit
      exact fit_known hfit h0
    · cases h1
  · rw [if_pos rfl]
    exact ⟨fun _ => rfl, fir_size F hk, fun _ h0 => fir_fit h h0⟩
theorem rdS_at {e : Evd} {z : Dsc} {P m T N : Nat} (hev : evOk e = true) (F : RdF e z P m T N) {k : Nat} (hk : k < N) : ∃ t, (rdD e).secs[k]? = some t ∧ RpF e k t := by
  refine ⟨rpFin e (zSec m) P k, ?_, rp_fin F.f (by rw [F.hn]; exact hk)⟩
  unfold rdD
  rw [if_pos hev]
  show (rdS e)[k]? = _
  rw [F.hs, rpS_at hk]
  unfold rpSt
  rw [if_pos hk]
end Go.Proofs.YtfcdienphillnaaGreat
