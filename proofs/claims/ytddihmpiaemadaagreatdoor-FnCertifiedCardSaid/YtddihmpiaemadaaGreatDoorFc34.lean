/- A disc drawn that may be invalid: the walk of l12Bent. -/
import Derived.Test.YtddihmpiaemadaaGreatDoorFc32
import Derived.Deep.CutRange
import Derived.Deep.CutBlock
namespace Go.Proofs.YtddihmpiaemadaaGreatDoor
set_option linter.unusedVariables false
set_option linter.unusedSimpArgs false
open Go.RowKit
theorem DrW.fin {g b bd n c a : Nat} {A : Option Addr} {w wx : World} {x a0 a1 a2 a3 a4 : Value} {S : List Sec} (h : DrW g w b bd [a0, a1, a2, a3, a4] x wx S) (hd : DrAt wx g A n c a) :
    (wx.cell? ⟨b, 0, none⟩ = some (.int .i64 0) ∧ wx.cell? ⟨b, 1, none⟩ = some (.int .i64 0) ∧ wx.cell? ⟨b, 2, none⟩ = some (.int .i64 0) ∧ wx.cell? ⟨b, 3, none⟩ = some (.int .i64 0) ∧ wx.cell? ⟨b, 4, none⟩ = some (.slice none 0 0)) ∧
    (wx.frozen? ⟨b, 0, none⟩ = false ∧ wx.frozen? ⟨b, 1, none⟩ = false ∧ wx.frozen? ⟨b, 2, none⟩ = false ∧ wx.frozen? ⟨b, 3, none⟩ = false ∧ wx.frozen? ⟨b, 4, none⟩ = false) ∧
    (wx.cell? ⟨bd, 0, none⟩ = some a0 ∧ wx.cell? ⟨bd, 1, none⟩ = some a1 ∧ wx.cell? ⟨bd, 2, none⟩ = some a2 ∧ wx.cell? ⟨bd, 3, none⟩ = some a3 ∧ wx.cell? ⟨bd, 4, none⟩ = some a4) ∧
    (((((((wx.setCell ⟨b, 0, none⟩ a0).setCell ⟨b, 1, none⟩ a1).setCell ⟨b, 2, none⟩ a2).setCell ⟨b, 3, none⟩ a3).setCell ⟨b, 4, none⟩ a4)).cell? ⟨b, 0, none⟩ = some a0 ∧ ((((((wx.setCell ⟨b, 0, none⟩ a0).setCell ⟨b, 1, none⟩ a1).setCell ⟨b, 2, none⟩ a2).setCell ⟨b, 3, none⟩ a3).setCell ⟨b, 4, none⟩ a4)).cell? ⟨b, 1, none⟩ = some a1 ∧ ((((((wx.setCell ⟨b, 0, none⟩ a0).setCell ⟨b, 1, none⟩ a1).setCell ⟨b, 2, none⟩ a2).setCell ⟨b, 3, none⟩ a3).setCell ⟨b, 4, none⟩ a4)).cell? ⟨b, 2, none⟩ = some a2 ∧ ((((((wx.setCell ⟨b, 0, none⟩ a0).setCell ⟨b, 1, none⟩ a1).setCell ⟨b, 2, none⟩ a2).setCell ⟨b, 3, none⟩ a3).setCell ⟨b, 4, none⟩ a4)).cell? ⟨b, 3, none⟩ = some a3 ∧ ((((((wx.setCell ⟨b, 0, none⟩ a0).setCell ⟨b, 1, none⟩ a1).setCell ⟨b, 2, none⟩ a2).setCell ⟨b, 3, none⟩ a3).setCell ⟨b, 4, none⟩ a4)).cell? ⟨b, 4, none⟩ = some a4) ∧
    Hid (SecOwn w.heap.size (((((wx.setCell ⟨b, 0, none⟩ a0).setCell ⟨b, 1, none⟩ a1).setCell ⟨b, 2, none⟩ a2).setCell ⟨b, 3, none⟩ a3).setCell ⟨b, 4, none⟩ a4) x S) ∧ Hid (Chg g (g + 1) w (((((wx.setCell ⟨b, 0, none⟩ a0).setCell ⟨b, 1, none⟩ a1).setCell ⟨b, 2, none⟩ a2).setCell ⟨b, 3, none⟩ a3).setCell ⟨b, 4, none⟩ a4)) ∧ Hid (DrAt (((((wx.setCell ⟨b, 0, none⟩ a0).setCell ⟨b, 1, none⟩ a1).setCell ⟨b, 2, none⟩ a2).setCell ⟨b, 3, none⟩ a3).setCell ⟨b, 4, none⟩ a4) g A n c a) := by
  obtain ⟨ch, r2, f2, rd, fd, sec, hb, hd', o1, o2, o3, l1, l2, og⟩ := h
  have R9 := set5_row r2 a0 a1 a2 a3 a4
  have hG : wx.grownBy (((((wx.setCell ⟨b, 0, none⟩ a0).setCell ⟨b, 1, none⟩ a1).setCell ⟨b, 2, none⟩ a2).setCell ⟨b, 3, none⟩ a3).setCell ⟨b, 4, none⟩ a4) (some b) := gset (gset (gset (gset (gset (World.grownBy.refl wx _) _ _) _ _) _ _) _ _) _ _
  have hgb : g < b := by omega
  exact ⟨⟨r2 0 _ rfl, r2 1 _ rfl, r2 2 _ rfl, r2 3 _ rfl, r2 4 _ rfl⟩, ⟨f2 0, f2 1, f2 2, f2 3, f2 4⟩, ⟨rd 0 _ rfl, rd 1 _ rfl, rd 2 _ rfl, rd 3 _ rfl, rd 4 _ rfl⟩, ⟨R9 0 _ rfl, R9 1 _ rfl, R9 2 _ rfl, R9 3 _ rfl, R9 4 _ rfl⟩,
    Lib.hid (OwnL.kept sec hG (.inr hb)), Lib.hid (Chg.setNew (Chg.setNew (Chg.setNew (Chg.setNew (Chg.setNew ch o1 _) o1 _) o1 _) o1 _) o1 _), Lib.hid (DrAt.setNew (DrAt.setNew (DrAt.setNew (DrAt.setNew (DrAt.setNew hd hgb _) hgb _) hgb _) hgb _) hgb _)⟩
theorem DrW.setD {g b bd o : Nat} {w wx : World} {x : Value} {D5 : List Value} {S : List Sec} (h : DrW g w b bd D5 x wx S) (u : Value) (ho : o < D5.length) : DrW g w b bd (D5.set o u) x (wx.setCell ⟨bd, o, none⟩ u) S := by
  obtain ⟨ch, r2, f2, rd, fd, sec, hb, hd', o1, o2, o3, l1, l2, og⟩ := h
  exact ⟨ch.setNew o3 u, r2.set_other u o2, fun k => by rw [setCell_frozen]; exact f2 k, rd.set u ho, fun k => by rw [setCell_frozen]; exact fd k, OwnL.kept sec (gset (World.grownBy.refl wx (some bd)) _ _) (.inr hd'), hb, hd', o1, o2, o3, by rw [setCell_size]; exact l1, by rw [setCell_size]; exact l2, og⟩
theorem DrW.app {g b bd : Nat} {w wx w' : World} {x v' : Value} {D5 : List Value} {S S' : List Sec} (h : DrW g w b bd D5 x wx S) (h5 : D5.length = 5) (hg : wx.grownBy w' x.ownBlock) (hat : v'.ownBlock = x.ownBlock ∨ v'.ownBlock = some wx.heap.size) (ho : SecOwn w.heap.size w' v' S') : DrW g w b bd (D5.set 4 v') v' (w'.setCell ⟨bd, 4, none⟩ v') S' := by
  obtain ⟨ch, r2, f2, rd, fd, sec, hb, hd, o1, o2, o3, l1, l2, og⟩ := h
  have nb := nob_at hat hb l1
  have nd := nob_at hat hd l2
  exact ⟨(ch.grown hg (fun k hk => (World.ownsRow.lt sec k hk).1)).setNew o3 _, (grown_row hg l1 hb r2).set_other _ o2, fun o => by rw [setCell_frozen]; exact grown_frozen hg l1 hb f2 o, (grown_row hg l2 hd rd).set v' (by omega), fun o => by rw [setCell_frozen]; exact grown_frozen hg l2 hd fd o, OwnL.kept ho (gset (World.grownBy.refl w' (some bd)) _ _) (.inr nd), nb, nd, o1, o2, o3, by rw [setCell_size]; exact Nat.lt_of_lt_of_le l1 hg.size, by rw [setCell_size]; exact Nat.lt_of_lt_of_le l2 hg.size, og⟩
set_option maxRecDepth 20000 in
set_option maxHeartbeats 8000000 in
theorem bent12_s (g : Nat) (A : Option Addr) (n c a q : Nat) (w : World) (h : DrAt w g A n c a) (hn : n ≤ 1048576) (ha : a ≤ 268435456) (hq : q ≤ 1048576) :
    Calls Tryz.prog 39 #[.pointer (some ⟨g, 0, none⟩), .int .i64 q] w fun e w' => ∃ (d : Dsc) (x : Value) (a' : Nat), e = .returned (dscV d x) ∧ SecOwn w.heap.size w' x d.secs ∧ d.secs.length ≤ 64 ∧ (∀ s ∈ d.secs, s.data.size ≤ 64) ∧ a' ≤ a + 8192 ∧ DrAt w' g A n c a' ∧ Chg g (g + 1) w w' := by
  have hg := h.lt
  have D0 := h.alloc (.cells #[.int .i64 0, .int .i64 0, .int .i64 0, .int .i64 0, .slice none 0 0] 32)
  have C0 : Chg g (g + 1) w (w.alloc (.cells #[.int .i64 0, .int .i64 0, .int .i64 0, .int .i64 0, .slice none 0 0] 32)) := (Chg.of_below (Below.refl _ _)).alloc _
  have R0 : Row (w.alloc (.cells #[.int .i64 0, .int .i64 0, .int .i64 0, .int .i64 0, .slice none 0 0] 32)) w.heap.size [.int .i64 0, .int .i64 0, .int .i64 0, .int .i64 0, .slice none 0 0] := Row.alloc w _ _
  have F0 : ∀ o, ((w.alloc (.cells #[.int .i64 0, .int .i64 0, .int .i64 0, .int .i64 0, .slice none 0 0] 32))).frozen? ⟨w.heap.size, o, none⟩ = false := frozen_alloc w _ _
  have z0 : ((w.alloc (.cells #[.int .i64 0, .int .i64 0, .int .i64 0, .int .i64 0, .slice none 0 0] 32))).heap.size = w.heap.size + 1 := by simp
  go_enter Tryz.func39, Tryz.ntmps39
  go_wp2_with (fail)
  generalize (w.alloc (.cells #[.int .i64 0, .int .i64 0, .int .i64 0, .int .i64 0, .slice none 0 0] 32)) = w0 at *
  refine (small_s g A n c a _ D0 hn (by omega)).mono ?_; rintro e w5 ⟨d, x5, a5, rfl, ho5, hok, ha5, D5', C5⟩
  obtain ⟨⟨dc, dh, dp, ds, g1, g2, g3, g4, g5, g6, g7, g8, g9, g10, g11, g12⟩, hdat⟩ := hok
  obtain ⟨X5, c5, rfl, hX5⟩ := OwnL.shape ho5
  obtain ⟨N, hN⟩ : ∃ N, d.secs.length = N := ⟨_, rfl⟩
  have hT : dc * dh ≤ 6 := Nat.mul_le_mul g6 g8
  have hT1 : 1 ≤ dc * dh := Nat.mul_le_mul g5 g7
  have hN30 : N ≤ 30 := by rw [← hN, g12]; exact Nat.mul_le_mul hT g10
  have hN1 : 1 ≤ N := by rw [← hN, g12]; exact Nat.mul_le_mul hT1 g9
  have hm : szN d.size ≤ 32 ∧ 1 ≤ szN d.size := by
    rw [g4]
    have : ds = 0 ∨ ds = 1 ∨ ds = 2 := by omega
    rcases this with rfl | rfl | rfl <;> decide
  have hsz : 0 ≤ d.size ∧ d.size ≤ 2 := by rw [g4]; omega
  obtain ⟨gs, rfl, hg0, hg5⟩ := hX5.resolve_left (fun h0 => by rw [h0] at hN; simp at hN; omega)
  rw [hN] at ho5 ⊢
  have zw5 := C5.size
  have hba : Below w5.heap.size w5 (w5.alloc (.cells #[.int .i64 d.cyl, .int .i64 d.heads, .int .i64 d.per, .int .i64 d.size, .slice (some ⟨gs, 0, none⟩) N c5] 32)) := Below.alloc (Below.refl _ _) (Nat.le_refl _) _
  have HS : Hid (d.secs.length = N ∧ ∀ s ∈ d.secs, s.data.size = szN d.size) := Lib.hid ⟨hN, hdat⟩
  have HW : Hid (DrW g w w.heap.size w5.heap.size [.int .i64 d.cyl, .int .i64 d.heads, .int .i64 d.per, .int .i64 d.size, .slice (some ⟨gs, 0, none⟩) N c5] (.slice (some ⟨gs, 0, none⟩) N c5) (w5.alloc (.cells #[.int .i64 d.cyl, .int .i64 d.heads, .int .i64 d.per, .int .i64 d.size, .slice (some ⟨gs, 0, none⟩) N c5] 32)) d.secs) := Lib.hid
    ⟨(C0.trans C5).belowK hba (by omega), (R0.chgIn C5 (by omega) (.inr (by omega))).below hba (by omega), frozen_below (frozen_chg F0 C5 (by omega) (.inr (by omega))) hba (by omega), Row.alloc w5 _ _, frozen_alloc w5 _ _, OwnL.below (OwnL.base ho5 (by omega)) hba, (fun e0 => by have e1 : some gs = some w.heap.size := e0; injection e1 with e1; omega), (fun e0 => by have e1 : some gs = some w5.heap.size := e0; injection e1 with e1; omega), Nat.le_refl _, by omega, by omega, by simp; omega, by simp, hg⟩
  have D6 := D5'.belowK hba D5'.lt
  clear D0 C0 R0 F0 h ho5 C5 hba hX5 D5' hdat hN hT hT1 g1 g2 g3 g4 g12
  go_wp2_with (fail)
  generalize (w5.alloc (.cells #[.int .i64 d.cyl, .int .i64 d.heads, .int .i64 d.per, .int .i64 d.size, .slice (some ⟨gs, 0, none⟩) N c5] 32)) = w6 at *
  refine (one_s g A n c a5 q _ D6 hn (by omega) hq).mono ?_; rintro e w7 ⟨b7, rfl, a7, h71, h72, D7, C7, S7⟩
  generalize hbd0 : w5.heap.size = bd at *
  have hgsb : w.heap.size < gs ∧ gs < bd := by omega
  have HW7 := Lib.hid (HW.out.chg C7)
  obtain ⟨m, hmE⟩ : ∃ m, szN d.size = m := ⟨_, rfl⟩
  rw [hmE] at hm HS
  have hsec : Hid (∀ s ∈ d.secs, s.data.size ≤ 64) := Lib.hid (fun s hs => by have := HS.out.2 s hs; omega)
  have hggs : g < gs := by omega
  clear D6 C7 S7 HW hbd0
  cases b7
  · obtain ⟨⟨y0, y1, y2, y3, y4⟩, ⟨f0, f1, f2, f3, f4⟩, ⟨x0, x1, x2, x3, x4⟩, ⟨v0, v1, v2, v3, v4⟩, HO, HC, HD⟩ := DrW.fin HW7.out D7
    go_wp2_with (fail)
    generalize (((((w7.setCell ⟨w.heap.size, 0, none⟩ (.int .i64 d.cyl)).setCell ⟨w.heap.size, 1, none⟩ (.int .i64 d.heads)).setCell ⟨w.heap.size, 2, none⟩ (.int .i64 d.per)).setCell ⟨w.heap.size, 3, none⟩ (.int .i64 d.size)).setCell ⟨w.heap.size, 4, none⟩ (.slice (some ⟨gs, 0, none⟩) N c5)) = W9 at *
    exact bodyPost_ret (v := .agg #[.int .i64 d.cyl, .int .i64 d.heads, .int .i64 d.per, .int .i64 d.size, .slice (some ⟨gs, 0, none⟩) N c5]) (by simp [results, Tryz.results39, go_sem, v0, v1, v2, v3, v4] <;> rfl) rfl ⟨d, _, a7, rfl, HO.out, by rw [HS.out.1]; omega, hsec.out, by omega, HD.out, HC.out⟩
  · have x4 := HW7.out.rd 4 _ rfl
    go_wp2_with (fail)
    refine (pick_s g A n c a7 N _ D7 hn (by omega) (by omega)).mono ?_; rintro e w8 ⟨k, hk, rfl, a8, h81, h82, D8, C8, S8⟩
    have HW8 := Lib.hid (HW7.out.chg C8)
    have hkN : k < N := by omega
    clear x4 D7 C8 S8 HW7 hk
    go_wp2_with (fail)
    refine (pick_s g A n c a8 6 _ D8 hn (by omega) (by omega)).mono ?_; rintro e w9 ⟨r, hr, rfl, a9, h91, h92, D9, C9, S9⟩
    have HW9 := Lib.hid (HW8.out.chg C9)
    clear D8 C9 S9 HW8
    obtain ⟨t, ht⟩ : ∃ t, d.secs[k]? = some t := ⟨d.secs[k]'(by have := HS.out.1; omega), List.getElem?_eq_getElem (by have := HS.out.1; omega)⟩
    obtain ⟨t0, ht0⟩ : ∃ t0, d.secs[0]? = some t0 := ⟨d.secs[0]'(by have := HS.out.1; omega), List.getElem?_eq_getElem (by have := HS.out.1; omega)⟩
    have HT := Lib.hid ht
    have HT0 := Lib.hid ht0
    have hki : (k : Int) < (N : Int) := by omega
    have hN0 : 0 < N := by omega
    have a9b : a9 ≤ a + 8000 := by omega
    have hg9 := D9.lt
    have hlb := HW9.out.l2
    have hr6 : r = 0 ∨ r = 1 ∨ r = 2 ∨ r = 3 ∨ r = 4 ∨ r = 5 := by omega
    clear ht ht0 hr h91 h92 h81 h82 h71 h72
    go_upto_block 0 with (fail)
    go_cut [20] from 25 (fun _ wx => ∃ (d' : Dsc) (x' : Value) (a' : Nat), Hid (d'.secs.length ≤ 64 ∧ ∀ s ∈ d'.secs, s.data.size ≤ 64) ∧ a' ≤ a + 8100 ∧ DrAt wx g A n c a' ∧ Hid (DrW g w w.heap.size bd [.int .i64 d'.cyl, .int .i64 d'.heads, .int .i64 d'.per, .int .i64 d'.size, x'] x' wx d'.secs))
    case rest =>
      clear HW9 D9 HT HT0
      obtain ⟨d', x', a', HL, ha', D10, HW10⟩ := hcut
      obtain ⟨X', n', c', rfl⟩ := own_slice HW10.out.sec
      obtain ⟨⟨y0, y1, y2, y3, y4⟩, ⟨f0, f1, f2, f3, f4⟩, ⟨x0, x1, x2, x3, x4⟩, ⟨v0, v1, v2, v3, v4⟩, HO, HC, HD⟩ := DrW.fin HW10.out D10
      clear HW10 D10
      go_wp2_with (fail)
      generalize (((((wc.setCell ⟨w.heap.size, 0, none⟩ (.int .i64 d'.cyl)).setCell ⟨w.heap.size, 1, none⟩ (.int .i64 d'.heads)).setCell ⟨w.heap.size, 2, none⟩ (.int .i64 d'.per)).setCell ⟨w.heap.size, 3, none⟩ (.int .i64 d'.size)).setCell ⟨w.heap.size, 4, none⟩ (.slice X' n' c')) = W9 at *
      exact bodyPost_ret (v := .agg #[.int .i64 d'.cyl, .int .i64 d'.heads, .int .i64 d'.per, .int .i64 d'.size, .slice X' n' c']) (by simp [results, Tryz.results39, go_sem, v0, v1, v2, v3, v4] <;> rfl) rfl ⟨d', _, a', rfl, HO.out, HL.out.1, HL.out.2, by omega, HD.out, HC.out⟩
    case first =>
    rcases hr6 with rfl | rfl | rfl | rfl | rfl | rfl
    · have Bd9 : Below w9.heap.size w9 (w9.drew.alloc (.cells #[.int .i64 0, .int .i64 5] 2)) := Below.alloc (Below.refl w9.heap.size w9).drew (Nat.le_refl _) _
      have HW9d := Lib.hid (HW9.out.below (Below.refl w9.heap.size w9).drew)
      have HWL := Lib.hid (HW9.out.below Bd9)
      have HWM : Hid (DrW g w w.heap.size bd [.int .i64 d.cyl, .int .i64 d.heads, .int .i64 d.per, .int .i64 d.size, .slice (some ⟨gs, 0, none⟩) N c5] (.slice (some ⟨gs, 0, none⟩) N c5) (w9.alloc (.cells #[.int .i64 0, .int .i64 5] 2)).drew d.secs) := Lib.hid (HW9.out.below (Below.alloc (Below.refl w9.heap.size w9) (Nat.le_refl _) _).drew)
      have HKS : Hid (∀ w' S, DrW g w w.heap.size bd [.int .i64 d.cyl, .int .i64 d.heads, .int .i64 d.per, .int .i64 d.size, .slice (some ⟨gs, 0, none⟩) N c5] (.slice (some ⟨gs, 0, none⟩) N c5) w' S → w'.cell? ⟨bd, 4, none⟩ = some (.slice (some ⟨gs, 0, none⟩) N c5)) := Lib.hid fun w' S h => h.rd 4 _ rfl
      have HAM := Lib.hid (among_s g A n c a9 w9.heap.size 2 [0, 5] (w9.drew.alloc (.cells #[.int .i64 0, .int .i64 5] 2)) (D9.belowK Bd9 hg9) hn (by omega) (by simp) (by simp) hg9 (by simp) (fun j x hj => by
        match j, hj with
        | 0, hj => simp at hj; subst hj; exact Row.alloc w9.drew #[.int .i64 0, .int .i64 5] 2 0 _ rfl
        | 1, hj => simp at hj; subst hj; exact Row.alloc w9.drew #[.int .i64 0, .int .i64 5] 2 1 _ rfl
        | j + 2, hj => simp at hj))
      have k94 := HW9d.out.rd 4 _ rfl
      have kL4 : (w9.alloc (.cells #[.int .i64 0, .int .i64 5] 2)).cell? ⟨bd, 4, none⟩ = some (.slice (some ⟨gs, 0, none⟩) N c5) := HWL.out.rd 4 _ rfl
      clear Bd9 D9 HW9
      go_wp2_with (fail)
      go_region_held3 (fun w' => w'.cell? ⟨bd, 4, none⟩ = some (.slice (some ⟨gs, 0, none⟩) N c5))
        (first | with_reducible exact HKS.out _ _ HW9d.out | with_reducible exact HKS.out _ _ HWL.out | with_reducible exact HKS.out _ _ HWM.out | with_reducible exact HKS.out _ _ HW12.out | with_reducible exact HKS.out _ _ HW13.out)
        (first
          | (go_at_call 38; refine HAM.out.mono ?_; rintro e w12 ⟨x, hx, rfl, a12, h121, h122, D12, C12, S12⟩; have HW12 := Lib.hid (HWL.out.chg C12); obtain ⟨q0, q1, fz⟩ := secs_at HW12.out.sec HS.out.1 HT.out; have k124 := HW12.out.rd 4 _ rfl; have HW13 := Lib.hid (HW12.out.grow (gset (World.grownBy.refl w12 (some gs)) (k * 2 + 1) (.int .i64 x)) (fun q hq => by injection hq with hq; omega) (secs_state HW12.out.sec HS.out.1 HT.out x))))
      have D13 := D12.setNew (b := gs) (o := k * 2 + 1) hggs (.int .i64 x)
      have HL13 : Hid ((d.secs.set k ⟨t.data, x⟩).length ≤ 64 ∧ ∀ s ∈ d.secs.set k ⟨t.data, x⟩, s.data.size ≤ 64) := Lib.hid ⟨by rw [List.length_set, HS.out.1]; omega, fun u hu => by
        rcases List.mem_or_eq_of_mem_set hu with hu | rfl
        · exact hsec.out u hu
        · exact hsec.out t (List.mem_of_getElem? HT.out)⟩
      clear q0 q1 fz k94 kL4 k124 HAM HW9d HWL HWM HW12 D12 C12 S12
      go_wp2_with (fail)
      go_meet
      exact ⟨⟨d.cyl, d.heads, d.per, d.size, d.secs.set k ⟨t.data, x⟩⟩, _, a12, HL13, by omega, D13, HW13⟩
    · obtain ⟨q0, q1, fz⟩ := secs_at HW9.out.sec HS.out.1 HT.out
      have x4 := HW9.out.rd 4 _ rfl
      have ht64 : t.data.size ≤ 64 := hsec.out t (List.mem_of_getElem? HT.out)
      go_wp2_with (fail)
      go_meet
      have hsx : (t.data ++ ({data := #[120]} : ByteArray)).size ≤ 64 := by
        have h1 := HS.out.2 t (List.mem_of_getElem? HT.out)
        have h2 : ({data := #[120]} : ByteArray).size = 1 := rfl
        rw [ByteArray.size_append, h2]
        omega
      refine ⟨⟨d.cyl, d.heads, d.per, d.size, d.secs.set k ⟨t.data ++ ({data := #[120]} : ByteArray), t.state⟩⟩, _, a9, Lib.hid ⟨by show (d.secs.set k _).length ≤ 64; rw [List.length_set, HS.out.1]; omega, fun u hu => ?_⟩, by omega, D9.setNew (b := gs) (o := k * 2) hggs _, Lib.hid (HW9.out.grow (gset (World.grownBy.refl w9 (some gs)) (k * 2) _) (fun q hq => by injection hq with hq; omega) (secs_data HW9.out.sec HS.out.1 HT.out _))⟩
      rcases List.mem_or_eq_of_mem_set hu with hu | rfl
      · exact hsec.out u hu
      · exact hsx
    · obtain ⟨i0, hi, hz0, hz1, hz2⟩ := info_parts secv_info
      obtain ⟨q0, q1, fz⟩ := secs_at HW9.out.sec HS.out.1 HT0.out
      rw [Nat.zero_mul] at q0 q1
      have x4 := HW9.out.rd 4 _ rfl
      have Bw : Below w9.heap.size w9 (w9.drew.alloc (.cells #[.string t0.data, .int .i64 t0.state] 56)) := Below.alloc (Below.refl w9.heap.size w9).drew (Nat.le_refl _) _
      have HWa := Lib.hid (HW9.out.below Bw)
      have Da := D9.belowK Bw hg9
      have xa := HWa.out.rd 4 _ rfl
      have xb : (w9.alloc (.cells #[.string t0.data, .int .i64 t0.state] 56)).cell? ⟨bd, 4, none⟩ = some (.slice (some ⟨gs, 0, none⟩) N c5) := xa
      have HRA := Lib.hid (Row.alloc w9.drew #[.string t0.data, .int .i64 t0.state] 56)
      have hl1 : d.secs.length + 1 ≤ 16777216 := by rw [HS.out.1]; omega
      have hbase : w.heap.size ≤ ((w9.drew.alloc (.cells #[.string t0.data, .int .i64 t0.state] 56))).heap.size := HWa.out.ch.size
      clear Bw D9 HW9
      go_wp2_with (fail)
      go_region_law (refine step_appP Sec.cells 2 Sec.len _ (by rfl) _ _ _ (by rfl) w.heap.size 56 i0 (.agg #[.string .empty, .int .i64 0]) 24 Tryz.underlying30 hi hz0 hz1 hz2 rfl (by decide) (.slice (some ⟨gs, 0, none⟩) N c5) d.secs (by rfl) HWa.out.sec _ 1 t0 (by rfl) HRA.out (by simp [Sec.cells, Value.oneCell']) hl1 (by decide) hbase ?_; intro g6 c6 w12 how6 hg6 hat6; have hat7 : (Value.slice (some ⟨g6, 0, none⟩) (d.secs.length + 1) c6).ownBlock = (Value.slice (some ⟨gs, 0, none⟩) N c5).ownBlock ∨ (Value.slice (some ⟨g6, 0, none⟩) (d.secs.length + 1) c6).ownBlock = some ((w9.drew.alloc (.cells #[.string t0.data, .int .i64 t0.state] 56))).heap.size := (hat6.elim (fun h1 => .inl h1.symm) (fun h1 => .inr (congrArg some h1))); have HW12 := Lib.hid (HWa.out.app rfl hg6 hat7 how6); have x12 := grown_cell hg6 HWa.out.l2 HWa.out.hd (HWa.out.rd 4 _ rfl); have f12 := grown_frozen hg6 HWa.out.l2 HWa.out.hd HWa.out.fd 4; have D12 := Da.grown hg6 (fun k hk => by have := (World.ownsRow.lt HWa.out.sec k hk).1; have := HWa.out.og; omega); clear how6 hg6 hat6 hat7)
      all_goals clear x4 xa xb q0 q1 fz HWa HRA hbase hl1
      all_goals go_wp2_with (fail)
      all_goals go_meet
      all_goals exact ⟨⟨d.cyl, d.heads, d.per, d.size, d.secs ++ [t0]⟩, _, a9, Lib.hid ⟨by show (d.secs ++ [t0]).length ≤ 64; rw [List.length_append, HS.out.1]; simp; omega, fun u hu => by
          rcases List.mem_append.1 hu with hu | hu
          · exact hsec.out u hu
          · obtain rfl : u = t0 := by simpa using hu
            exact hsec.out u (List.mem_of_getElem? HT0.out)⟩, by omega, D12.setNew (by omega) _, HW12⟩
    · have Bl : Below w9.heap.size w9 (w9.alloc (.cells #[.int .i64 (-1), .int .i64 3, .int .i64 0, .int .i64 1] 2)) := Below.alloc (Below.refl _ _) (Nat.le_refl _) _
      have HAM := Lib.hid (among_s g A n c a9 w9.heap.size 4 [(-1), 3, 0, 1] (w9.alloc (.cells #[.int .i64 (-1), .int .i64 3, .int .i64 0, .int .i64 1] 2)) (D9.belowK Bl hg9) hn (by omega) (by simp) (by simp) hg9 (by simp) (fun j x hj => by
        match j, hj with
        | 0, hj => simp at hj; subst hj; exact Row.alloc w9 #[.int .i64 (-1), .int .i64 3, .int .i64 0, .int .i64 1] 2 0 _ rfl
        | 1, hj => simp at hj; subst hj; exact Row.alloc w9 #[.int .i64 (-1), .int .i64 3, .int .i64 0, .int .i64 1] 2 1 _ rfl
        | 2, hj => simp at hj; subst hj; exact Row.alloc w9 #[.int .i64 (-1), .int .i64 3, .int .i64 0, .int .i64 1] 2 2 _ rfl
        | 3, hj => simp at hj; subst hj; exact Row.alloc w9 #[.int .i64 (-1), .int .i64 3, .int .i64 0, .int .i64 1] 2 3 _ rfl
        | j + 4, hj => simp at hj))
      have HWl := Lib.hid (HW9.out.below Bl)
      clear Bl HT
      go_wp2_with (fail)
      refine HAM.out.mono ?_; rintro e w12 ⟨x, hx, rfl, a12, h121, h122, D12, C12, S12⟩
      have HW12 := Lib.hid (HWl.out.chg C12)
      have fd := HW12.out.fd 3
      have xd := HW12.out.rd 3 _ rfl
      have HW10 := Lib.hid (HW12.out.setD (o := 3) (.int .i64 x) (by simp))
      have D10 := D12.setNew (b := bd) (o := 3) (by omega) (.int .i64 x)
      clear HWl HAM C12 S12 D12 hx HW9 D9
      go_wp2_with (fail)
      go_meet
      exact ⟨⟨d.cyl, d.heads, d.per, x, d.secs⟩, _, a12, Lib.hid ⟨by show d.secs.length ≤ 64; rw [HS.out.1]; omega, hsec.out⟩, by omega, D10, HW10⟩
    · obtain ⟨m1, hm1⟩ : ∃ m1 : Nat, (m : Int) - 1 = m1 := ⟨m - 1, by omega⟩
      have hwm : IntKind.i64.wrap (m1 : Int) = (m1 : Int) := by rw [IntKind.wrap_i64]; omega
      have HBY := Lib.hid (fun (w' : World) => bytes_s d.size w' hsz)
      rw [hmE] at HBY
      have HW9d := Lib.hid (HW9.out.below (Below.refl w9.heap.size w9).drew)
      have D9d := D9.belowK (Below.refl w9.heap.size w9).drew D9.lt
      have HZ := Lib.hid (zeros_s m1 w9.drew (by omega))
      obtain ⟨zs, hzs⟩ : ∃ zs, strN (List.replicate m1 0) = zs := ⟨_, rfl⟩
      have hzz : zs.size ≤ 63 := by rw [← hzs, strN_size, List.length_replicate]; omega
      have hzc : ¬ 9223372036854775807 < 1 + zs.size := by omega
      rw [hzs] at HZ
      have HKS : Hid (∀ w' S, DrW g w w.heap.size bd [.int .i64 d.cyl, .int .i64 d.heads, .int .i64 d.per, .int .i64 d.size, .slice (some ⟨gs, 0, none⟩) N c5] (.slice (some ⟨gs, 0, none⟩) N c5) w' S → w'.cell? ⟨bd, 4, none⟩ = some (.slice (some ⟨gs, 0, none⟩) N c5) ∧ w'.cell? ⟨bd, 3, none⟩ = some (.int .i64 d.size)) := Lib.hid fun w' S h => ⟨h.rd 4 _ rfl, h.rd 3 _ rfl⟩
      obtain ⟨k74, k73⟩ := HKS.out _ _ HW9d.out
      clear hzs D9 HW9
      go_wp2_with (fail)
      go_region_held3 (fun w' => w'.cell? ⟨bd, 4, none⟩ = some (.slice (some ⟨gs, 0, none⟩) N c5) ∧ w'.cell? ⟨bd, 3, none⟩ = some (.int .i64 d.size))
        (first | with_reducible exact HKS.out _ _ HW9d.out | with_reducible exact HKS.out _ _ HW10.out | with_reducible exact HKS.out _ _ HW11.out)
        (first
          | (go_at_call 57; refine (HBY.out _).mono ?_; rintro r w8 ⟨rfl, rfl⟩)
          | (go_at_call 79; refine HZ.out.mono ?_; rintro r w10 ⟨rfl, hb10⟩; have HW10 := Lib.hid (HW9d.out.below hb10); have D10 := D9d.belowK hb10 hg9; obtain ⟨q0, q1, fz⟩ := secs_at HW10.out.sec HS.out.1 HT.out; have k94 := (HKS.out _ _ HW10.out).1; have HW11 := Lib.hid (HW10.out.grow (gset (gset (World.grownBy.refl w10 (some gs)) (k * 2) (.string (({data := #[65]} : ByteArray) ++ zs))) (k * 2 + 1) (.int .i64 3)) (fun q hq => by injection hq with hq; omega) (secs_set HW10.out.sec HS.out.1 hkN ⟨({data := #[65]} : ByteArray) ++ zs, 3⟩))))
      have D11 := (D10.setNew (b := gs) (o := k * 2) hggs (.string (({data := #[65]} : ByteArray) ++ zs))).setNew (b := gs) (o := k * 2 + 1) hggs (.int .i64 3)
      have hsx : (({data := #[65]} : ByteArray) ++ zs).size ≤ 64 := by
        have h2 : ({data := #[65]} : ByteArray).size = 1 := rfl
        rw [ByteArray.size_append, h2]
        omega
      have HL11 : Hid ((d.secs.set k ⟨({data := #[65]} : ByteArray) ++ zs, 3⟩).length ≤ 64 ∧ ∀ s ∈ d.secs.set k ⟨({data := #[65]} : ByteArray) ++ zs, 3⟩, s.data.size ≤ 64) := Lib.hid ⟨by rw [List.length_set, HS.out.1]; omega, fun u hu => by
        rcases List.mem_or_eq_of_mem_set hu with hu | rfl
        · exact hsec.out u hu
        · exact hsx⟩
      clear q0 q1 fz k73 k74 k94 HW9d D9d HW10 D10 HZ HBY
      go_wp2_with (fail)
      go_meet
      exact ⟨⟨d.cyl, d.heads, d.per, d.size, d.secs.set k ⟨({data := #[65]} : ByteArray) ++ zs, 3⟩⟩, _, a9, HL11, by omega, D11, HW11⟩
    · have Bl : Below w9.heap.size w9 (w9.alloc (.cells #[.int .i64 0, .int .i64 9, .int .i64 2] 2)) := Below.alloc (Below.refl _ _) (Nat.le_refl _) _
      have HAM := Lib.hid (among_s g A n c a9 w9.heap.size 3 [0, 9, 2] (w9.alloc (.cells #[.int .i64 0, .int .i64 9, .int .i64 2] 2)) (D9.belowK Bl hg9) hn (by omega) (by simp) (by simp) hg9 (by simp) (fun j x hj => by
        match j, hj with
        | 0, hj => simp at hj; subst hj; exact Row.alloc w9 #[.int .i64 0, .int .i64 9, .int .i64 2] 2 0 _ rfl
        | 1, hj => simp at hj; subst hj; exact Row.alloc w9 #[.int .i64 0, .int .i64 9, .int .i64 2] 2 1 _ rfl
        | 2, hj => simp at hj; subst hj; exact Row.alloc w9 #[.int .i64 0, .int .i64 9, .int .i64 2] 2 2 _ rfl
        | j + 3, hj => simp at hj))
      have HWl := Lib.hid (HW9.out.below Bl)
      clear Bl HT
      go_wp2_with (fail)
      refine HAM.out.mono ?_; rintro e w12 ⟨x, hx, rfl, a12, h121, h122, D12, C12, S12⟩
      have HW12 := Lib.hid (HWl.out.chg C12)
      have fd := HW12.out.fd 0
      have xd := HW12.out.rd 0 _ rfl
      have HW10 := Lib.hid (HW12.out.setD (o := 0) (.int .i64 x) (by simp))
      have D10 := D12.setNew (b := bd) (o := 0) (by omega) (.int .i64 x)
      clear HWl HAM C12 S12 D12 hx HW9 D9
      go_wp2_with (fail)
      go_meet
      exact ⟨⟨x, d.heads, d.per, d.size, d.secs⟩, _, a12, Lib.hid ⟨by show d.secs.length ≤ 64; rw [HS.out.1]; omega, hsec.out⟩, by omega, D10, HW10⟩
end Go.Proofs.YtddihmpiaemadaaGreatDoor
