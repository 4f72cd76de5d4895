/- slices.SortFunc over rows: the closure's walk, the contract. -/
import Derived.Test.YthchdbjgjnpooaaDoorSortK
import Derived.Test.YthchdbjgjnpooaaDoorShs
import Derived.Test.YthchdbjgjnpooaaDoorRedP
import Derived.Lib.LaidTab
namespace Go.Proofs.YthchdbjgjnpooaaDoor
set_option linter.unusedVariables false
set_option linter.unusedSimpArgs false
open Go.RowKit Go.Sort
def dbT : List Int := [0, 1, 56, 2, 57, 49, 28, 3, 61, 58, 42, 50, 38, 29, 17, 4, 62, 47, 59, 36, 45, 43, 51, 22, 53, 39, 33, 30, 24, 18, 12, 5, 63, 55, 48, 27, 60, 41, 37, 16, 46, 35, 44, 21, 52, 32, 23, 11, 54, 26, 40, 15, 34, 20, 31, 10, 25, 14, 19, 9, 13, 8, 7, 6]
/-- the library's table of bits holds what its text lays -/
def Tz (w : World) : Prop := Lib.TabIs Tryd.prog w "math/bits.deBruijn64tab" .u8 dbT
theorem tz_g : Tryd.prog.globalNamed "math/bits.deBruijn64tab" = some 0 := by kernel_rfl
theorem Tz.lt {w : World} (h : Tz w) : 0 < w.heap.size := World.block_lt_of_cell? w _ (Lib.TabIs.cell (W := w) h tz_g 0 (by decide))
theorem Tz.keep {B : Nat} {w w' : World} (h : Tz w) (hB : 0 < B) (hb : Below B w w') : Tz w' := by
  unfold Tz Lib.TabIs World.var? at h ⊢
  simp only [tz_g, Option.bind_some] at h ⊢
  rw [hb.block _ hB]
  exact h
theorem Tz.below {w w' : World} (h : Tz w) (hb : Below w.heap.size w w') : Tz w' := h.keep h.lt hb
theorem dbT_at : ∀ j : Fin 64, dbT.getD j.val 0 = ((Lib.deBruijn64tab.getD j.val 0 : Nat) : Int) := by decide +kernel
theorem Tz.tab {w : World} (h : Tz w) : TabAt 0 Lib.deBruijn64tab w := by
  intro j hj
  have hj' : j < 64 := hj
  have := Lib.TabIs.cell (W := w) h tz_g j (by show j < 64; exact hj')
  rw [dbT_at ⟨j, hj'⟩] at this
  exact this
theorem ctz_from : ∀ (f m : Nat), m ≠ 0 → m < 2 ^ f → Lib.ctzFrom f m = low m
  | 0, m, h0, h => by simp at h; omega
  | f + 1, m, h0, h => by
    unfold Lib.ctzFrom low
    rw [dif_neg h0]
    by_cases h1 : m % 2 = 1
    · rw [if_pos h1, if_pos h1]
    · rw [if_neg h1, if_neg h1, ctz_from f (m / 2) (by omega) (by rw [Nat.pow_succ] at h; omega)]; omega
theorem ctz_low {m : Nat} (h0 : m ≠ 0) (h : m < 18446744073709551616) : Lib.ctz 64 m = low m := by
  unfold Lib.ctz
  rw [if_neg h0, ctz_from 64 m h0 h]
theorem wrap_in {x : Int} (h1 : -9223372036854775808 ≤ x) (h2 : x ≤ 9223372036854775807) : IntKind.i64.wrap x = x := by
  simp [IntKind.wrap, IntKind.bits, IntKind.signed]; omega
theorem tz_i (m : Nat) (w : World) (h0 : m ≠ 0) (h : m < 18446744073709551616) (tab : Tz w) : Calls Tryd.prog 25 #[.int .u64 m] w fun e w' => e = .returned (.int .i64 (low m)) ∧ w' = w := by
  have := Any7.bits_TrailingZeros64 Tryd.tz m h w (fun _ => tab.tab)
  rw [ctz_low h0 h] at this
  exact this
set_option maxRecDepth 20000 in
set_option maxHeartbeats 1000000 in
theorem cmp_i (x y : RwS) (w : World) (tab : Tz w) : Calls Tryd.prog 24 #[.agg (encR x).toArray, .agg (encR y).toArray] w fun e w' => e = .returned (.int .i64 (cmpR x y)) ∧ ∃ q os', w' = grow (w.drewN q) os' := by
  obtain ⟨⟨m, r⟩, hx0, hx1⟩ := x
  obtain ⟨⟨m2, r2⟩, hy0, hy1⟩ := y
  have T1 := Lib.hid (fun w' (t : Tz w') => tz_i m w' hx0 hx1 t)
  have T2 := Lib.hid (fun w' (t : Tz w') => tz_i m2 w' hy0 hy1 t)
  have TB := Lib.hid (fun w' (hb : Below w.heap.size w w') => tab.below hb)
  have l1 := low_lt hx0 hx1
  have l2 := low_lt hy0 hy1
  have hcm : Hid (cmpR ⟨⟨m, r⟩, hx0, hx1⟩ ⟨⟨m2, r2⟩, hy0, hy1⟩ = (low m : Int) - (low m2 : Int)) := Lib.hid rfl
  generalize cmpR ⟨⟨m, r⟩, hx0, hx1⟩ ⟨⟨m2, r2⟩, hy0, hy1⟩ = R at *
  show Calls Tryd.prog 24 #[.agg #[.int .u64 m, .int .i64 (bi r)], .agg #[.int .u64 m2, .int .i64 (bi r2)]] w _
  generalize low m = a at *
  generalize low m2 = b at *
  generalize bi r = c1 at *
  generalize bi r2 = c2 at *
  clear tab
  go_enter Tryd.func24, Tryd.ntmps24
  have HX := Lib.hid (show ((w.alloc (.cells #[.int .u64 m, .int .i64 c1] 47)).alloc (.cells #[.int .u64 m2, .int .i64 c2] 47)).drew = grow (w.drewN 1) #[.cells #[.int .u64 m, .int .i64 c1] 47, .cells #[.int .u64 m2, .int .i64 c2] 47] by rw [alloc_eq_grow, alloc_eq_grow, grow_grow, drew_grow]; rfl)
  have p0 : ((w.alloc (.cells #[.int .u64 m, .int .i64 c1] 47)).alloc (.cells #[.int .u64 m2, .int .i64 c2] 47)).drew.cell? ⟨w.heap.size, 0, none⟩ = some (.int .u64 m) := by simp [go_sem]
  have p1 : ((w.alloc (.cells #[.int .u64 m, .int .i64 c1] 47)).alloc (.cells #[.int .u64 m2, .int .i64 c2] 47)).drew.cell? ⟨w.heap.size + 1, 0, none⟩ = some (.int .u64 m2) := by simp [go_sem]
  have hB : Below w.heap.size w ((w.alloc (.cells #[.int .u64 m, .int .i64 c1] 47)).alloc (.cells #[.int .u64 m2, .int .i64 c2] 47)).drew := (Below.alloc (Below.alloc (Below.refl _ _) (Nat.le_refl _) _) (by simp) _).drew
  have U := TB.out _ hB
  have h64 : (-9223372036854775808 ≤ (a : Int) - b ∧ (a : Int) - b ≤ 9223372036854775807) := by omega
  go_wp2_with (fail)
  refine region_s0 (by kernel_rfl) (by kernel_rfl) (fun w8 hw8 => ?_)
  rw [← hw8] at p0 p1 HX U
  clear hw8 hB
  repeat still_step
  still_call (T1.out _ U)
  repeat still_step
  still_call (T2.out _ U)
  repeat still_step
  refine wpStill_nil ?_
  go_wp2
  go_ret
  exact ⟨ret_int (by rw [hcm.out, wrap_in h64.1 h64.2]), 1, _, HX.out⟩
theorem cmp_lays (B g : Nat) (size : Nat) (w : World) (tab : Tz w) (hB : 0 < B) (hg : B ≤ g) (hgw : g < w.heap.size) : Go.Proofs.CmpLays Tryd.prog 24 #[] encR 2 cmpR g 0 size w :=
  fun _ _ _ _ x y => cmp_i x y _ (tab.keep hB ((below_sorted hgw).mono hg))
theorem sort_i (T : TypeId) (B g c : Nat) (d : Array RwS) (w : World) (h : OwnL (rc .i64) 2 T B w (.slice (some ⟨g, 0, none⟩) d.size c) (rwL d)) (hr : Red low (rwL d)) (hn : d.size ≤ 1048576) (tab : Tz w) (hB : 0 < B) :
    Calls Tryd.prog 23 #[.slice (some ⟨g, 0, none⟩) d.size c, .func (.func 24) #[] #[]] w fun e w' => e = .returned (.tuple #[]) ∧ (∃ d' : Array RwS, d'.size = d.size ∧ OwnL (rc .i64) 2 T B w' (.slice (some ⟨g, 0, none⟩) d.size c) (rwL d') ∧ Red low (rwL d') ∧ Srt (rwL d') ∧ ∀ x, Sol (rwL d') x ↔ Sol (rwL d) x) ∧ Below B w w' := by
  have hgB : B ≤ g ∧ g < w.heap.size := World.ownsRow.lt h g rfl
  have eg : ∀ args w, (callFunc 24 args).run Tryd.prog w = .ok (.enter 24 args) w := enters_of Tryd.func24 (by kernel_rfl) rfl
  have hcon := Go.Proofs.AnyQ.slices_SortFunc Tryd.sortR 2 Tryd.isAgg47 Tryd.sizeOf47 encR (fun _ => rfl) (fun x => rc_one .i64 x.1) cmpR swoR 24 #[] g 0 c d w eg (cmp_lays B g d.size w tab hB hgB.1 hgB.2) (holds_rows h) hgB.2 (by omega)
  refine hcon.mono ?_
  rintro e w' ⟨rfl, d', n, os, hp, hs, rfl⟩
  obtain ⟨r1, r2, r3⟩ := sorted_red hp hs hr
  exact ⟨rfl, ⟨d', hp.1, own_sorted h hp.1, r1, r2, r3⟩, (below_sorted hgB.2).mono hgB.1⟩
theorem sort_none (c : Nat) (A : Option Addr) (w : World) : Calls Tryd.prog 23 #[.slice A 0 c, .func (.func 24) #[] #[]] w fun e w' => e = .returned (.tuple #[]) ∧ w' = w :=
  Go.Proofs.AnyF.slices_SortFunc_none Tryd.sortR A c _ w
end Go.Proofs.YthchdbjgjnpooaaDoor
