/- A disc's own copy: the walk of l12Own. A dump of a disc drawn: the walk of l26Damage. -/
import Derived.Test.YtddihmpiaemadaaGreatDoorFc30
namespace Go.Proofs.YtddihmpiaemadaaGreatDoor
set_option linter.unusedVariables false
set_option linter.unusedSimpArgs false
open Go.RowKit
set_option maxRecDepth 20000 in
set_option maxHeartbeats 4000000 in
theorem own_s (Bd gd : Nat) (d : Dsc) (x : Value) (w : World) (hx : Row w gd (dscL d x)) (hgd : gd < w.heap.size) (hd : SecOwn Bd w x d.secs) (hn : d.secs.length ≤ 1048576) :
    Calls Tryz.prog 98 #[.pointer (some ⟨gd, 0, none⟩)] w fun e w' => ∃ x', e = .returned (dscV d x') ∧ SecOwn w.heap.size w' x' d.secs ∧ Below w.heap.size w w' := by
  obtain ⟨i0, hi, hz0, hz1, hz2⟩ := info_parts secv_info
  obtain ⟨X, c, rfl, _⟩ := OwnL.shape hd
  obtain ⟨RR, RB, FB, HB, zz⟩ := boxes2 w #[.int .i64 0, .int .i64 0, .int .i64 0, .int .i64 0, .slice none 0 0] #[.int .i64 d.cyl, .int .i64 d.heads, .int .i64 d.per, .int .i64 d.size, .slice X d.secs.length c] 32 32
  have FR : ∀ o, (((w.alloc (.cells #[.int .i64 0, .int .i64 0, .int .i64 0, .int .i64 0, .slice none 0 0] 32)).alloc (.cells #[.int .i64 d.cyl, .int .i64 d.heads, .int .i64 d.per, .int .i64 d.size, .slice X d.secs.length c] 32))).frozen? ⟨w.heap.size, o, none⟩ = false := fun o => frozen_below (frozen_alloc w _ _) (Below.alloc (Below.refl _ _) (Nat.le_refl _) _) (by simp) o
  have HB1 : Below w.heap.size w (w.alloc (.cells #[.int .i64 0, .int .i64 0, .int .i64 0, .int .i64 0, .slice none 0 0] 32)) := Below.alloc (Below.refl _ _) (Nat.le_refl _) _
  have RX := hx.below HB1 hgd
  have x0 := RX 0 _ rfl
  have x1 := RX 1 _ rfl
  have x2 := RX 2 _ rfl
  have x3 := RX 3 _ rfl
  have x4 := RX 4 _ rfl
  have hb2 : Below (((w.alloc (.cells #[.int .i64 0, .int .i64 0, .int .i64 0, .int .i64 0, .slice none 0 0] 32)).alloc (.cells #[.int .i64 d.cyl, .int .i64 d.heads, .int .i64 d.per, .int .i64 d.size, .slice X d.secs.length c] 32))).heap.size ((w.alloc (.cells #[.int .i64 0, .int .i64 0, .int .i64 0, .int .i64 0, .slice none 0 0] 32)).alloc (.cells #[.int .i64 d.cyl, .int .i64 d.heads, .int .i64 d.per, .int .i64 d.size, .slice X d.secs.length c] 32)) (((w.alloc (.cells #[.int .i64 0, .int .i64 0, .int .i64 0, .int .i64 0, .slice none 0 0] 32)).alloc (.cells #[.int .i64 d.cyl, .int .i64 d.heads, .int .i64 d.per, .int .i64 d.size, .slice X d.secs.length c] 32)).alloc (.cells #[] 56)) := Below.alloc (Below.refl _ _) (Nat.le_refl _) _
  have HB2 := HB.trans (hb2.mono (by omega))
  have RX2 := hx.below HB2 hgd
  have u4 := RX2 4 _ rfl
  have HO := Lib.hid (OwnL.of_empty (f := Sec.cells) (z := 2) (e := 56) (B := w.heap.size + 2) ((w.alloc (.cells #[.int .i64 0, .int .i64 0, .int .i64 0, .int .i64 0, .slice none 0 0] 32)).alloc (.cells #[.int .i64 d.cyl, .int .i64 d.heads, .int .i64 d.per, .int .i64 d.size, .slice X d.secs.length c] 32)) (by omega))
  rw [zz] at HO
  have HD := Lib.hid (OwnL.below hd HB2)
  have RR2 := Lib.hid (RR.below hb2 (by omega))
  have RB2 := Lib.hid (RB.below hb2 (by omega))
  have FR2 := Lib.hid (frozen_below FR hb2 (by omega))
  have FB2 := Lib.hid (frozen_below FB hb2 (by omega))
  have HBb := Lib.hid HB2
  have z2 : ((((w.alloc (.cells #[.int .i64 0, .int .i64 0, .int .i64 0, .int .i64 0, .slice none 0 0] 32)).alloc (.cells #[.int .i64 d.cyl, .int .i64 d.heads, .int .i64 d.per, .int .i64 d.size, .slice X d.secs.length c] 32)).alloc (.cells #[] 56))).heap.size = w.heap.size + 3 := by simp
  have hone : ∀ b : Sec, ∀ u ∈ Sec.cells b, u.oneCell' = true := by intro b; simp [Sec.cells, Value.oneCell']
  clear RR RB FB FR HB HB1 RX hb2 HB2 RX2 hx hd
  go_enter Tryz.func98, Tryz.ntmps98
  go_wp2_with (at_builtin; refine stopQ ?_)
  intro _
  refine wpList_appAll Sec.cells 2 Sec.len _ rfl _ _ _ rfl (w.heap.size + 2) Bd 56 56 i0 (.agg #[.string .empty, .int .i64 0]) 24 Tryz.underlying30 hi hz0 hz1 hz2 rfl (by decide) _ [] rfl HO.out _ d.secs rfl HD.out hone (by simp; omega) (by decide) (by rw [z2]; omega) ?_
  intro v3 w3 how hgr
  rw [List.nil_append] at how
  obtain ⟨A3, c3, hv3, _⟩ := OwnL.shape how
  obtain ⟨lv, hlv⟩ : ∃ lv, d.secs.length = lv := ⟨_, rfl⟩
  rw [hlv] at hv3
  subst hv3
  have hro : (Value.slice (some ⟨w.heap.size + 2, 0, none⟩) 0 0).ownBlock = some (w.heap.size + 2) := rfl
  have hgr2 : World.grownBy (((w.alloc (.cells #[.int .i64 0, .int .i64 0, .int .i64 0, .int .i64 0, .slice none 0 0] 32)).alloc (.cells #[.int .i64 d.cyl, .int .i64 d.heads, .int .i64 d.per, .int .i64 d.size, .slice X d.secs.length c] 32)).alloc (.cells #[] 56)) w3 (some (w.heap.size + 2)) := hgr
  have nb : ∀ k, k ≤ w.heap.size + 1 → (some (w.heap.size + 2) : Option Nat) ≠ some k := fun k hk e0 => by injection e0 with e0; omega
  have R3 := grown_row hgr2 (by omega) (nb _ (by omega)) RR2.out
  have B3 := grown_row hgr2 (by omega) (nb _ (by omega)) RB2.out
  have FR3 := grown_frozen hgr2 (by omega) (nb _ (by omega)) FR2.out
  have FB3 := grown_frozen hgr2 (by omega) (nb _ (by omega)) FB2.out
  have HB3 := HBb.out.grown hgr2 (by omega) (fun k hk => by injection hk with hk; omega)
  have hne : w.heap.size ≠ w.heap.size + 1 := by omega
  have R5 := R3.set_other (g := w.heap.size + 1) (o := 4) (.slice A3 lv c3) hne
  have B5 := B3.set (o := 4) (.slice A3 lv c3) (by simp)
  have y0 := R5 0 _ rfl
  have y1 := R5 1 _ rfl
  have y2 := R5 2 _ rfl
  have y3 := R5 3 _ rfl
  have y4 := R5 4 _ rfl
  have f0 := FR3 0
  have f1 := FR3 1
  have f2 := FR3 2
  have f3 := FR3 3
  have f4 := FR3 4
  have b4 := B3 4 _ rfl
  have g4 := FB3 4
  have s0 := B5 0 _ rfl
  have s1 := B5 1 _ rfl
  have s2 := B5 2 _ rfl
  have s3 := B5 3 _ rfl
  have s4 := B5 4 _ rfl
  have R9 := set5_row R5 (.int .i64 d.cyl) (.int .i64 d.heads) (.int .i64 d.per) (.int .i64 d.size) (.slice A3 lv c3)
  have v0 := R9 0 _ rfl
  have v1 := R9 1 _ rfl
  have v2 := R9 2 _ rfl
  have v3 := R9 3 _ rfl
  have v4 := R9 4 _ rfl
  have HO9 : Hid (SecOwn w.heap.size (((((((w3.setCell ⟨w.heap.size + 1, 4, none⟩ (.slice A3 lv c3))).setCell ⟨w.heap.size, 0, none⟩ (.int .i64 d.cyl)).setCell ⟨w.heap.size, 1, none⟩ (.int .i64 d.heads)).setCell ⟨w.heap.size, 2, none⟩ (.int .i64 d.per)).setCell ⟨w.heap.size, 3, none⟩ (.int .i64 d.size)).setCell ⟨w.heap.size, 4, none⟩ (.slice A3 lv c3)) (.slice A3 lv c3) d.secs) := Lib.hid (OwnL.base (far_set (far_set (far_set (far_set (far_set (far_set how (by omega)) (by omega)) (by omega)) (by omega)) (by omega)) (by omega)) (by omega))
  have HB9 : Hid (Below w.heap.size w (((((((w3.setCell ⟨w.heap.size + 1, 4, none⟩ (.slice A3 lv c3))).setCell ⟨w.heap.size, 0, none⟩ (.int .i64 d.cyl)).setCell ⟨w.heap.size, 1, none⟩ (.int .i64 d.heads)).setCell ⟨w.heap.size, 2, none⟩ (.int .i64 d.per)).setCell ⟨w.heap.size, 3, none⟩ (.int .i64 d.size)).setCell ⟨w.heap.size, 4, none⟩ (.slice A3 lv c3))) := Lib.hid (Below.setCell (Below.setCell (Below.setCell (Below.setCell (Below.setCell (Below.setCell HB3 (Nat.le_succ _) _) (Nat.le_refl _) _) (Nat.le_refl _) _) (Nat.le_refl _) _) (Nat.le_refl _) _) (Nat.le_refl _) _)
  clear R9 R3 B3 FR3 FB3 R5 B5 how hgr hgr2 HB3 HBb x0 x1 x2 x3 x4 u4 HD HO RR2 RB2 FR2 FB2
  go_wp2_with (fail)
  generalize (((((((w3.setCell ⟨w.heap.size + 1, 4, none⟩ (.slice A3 lv c3))).setCell ⟨w.heap.size, 0, none⟩ (.int .i64 d.cyl)).setCell ⟨w.heap.size, 1, none⟩ (.int .i64 d.heads)).setCell ⟨w.heap.size, 2, none⟩ (.int .i64 d.per)).setCell ⟨w.heap.size, 3, none⟩ (.int .i64 d.size)).setCell ⟨w.heap.size, 4, none⟩ (.slice A3 lv c3)) = W9 at *
  exact bodyPost_ret (v := .agg #[.int .i64 d.cyl, .int .i64 d.heads, .int .i64 d.per, .int .i64 d.size, .slice A3 lv c3]) (by simp [results, Tryz.results98, go_sem, v0, v1, v2, v3, v4] <;> rfl) rfl ⟨_, rfl, HO9.out, HB9.out⟩
end Go.Proofs.YtddihmpiaemadaaGreatDoor
namespace Go.Proofs.YtddihmpiaemadaaGreatDoor
set_option linter.unusedVariables false
set_option linter.unusedSimpArgs false
open Go.RowKit
set_option maxRecDepth 20000 in
set_option maxHeartbeats 8000000 in
theorem dmg_s (g : Nat) (A : Option Addr) (n c0 a Bd N m : Nat) (d : Dsc) (x : Value) (w : World) (h : DrAt w g A n c0 a) (hn : n ≤ 1048576) (ha : a ≤ 536870912)
    (hd : SecOwn Bd w x d.secs) (hN : d.secs.length = N) (hN1 : 1 ≤ N) (hN2 : N ≤ 1024) (hm : szN d.size = m) (hm1 : 1 ≤ m ∧ m ≤ 1024) (hsz : 0 ≤ d.size ∧ d.size ≤ 2) (hdat : ∀ s ∈ d.secs, s.data.size = m) :
    Calls Tryz.prog 75 #[.pointer (some ⟨g, 0, none⟩), dscV d x] w fun e w' => ∃ (S : List Sec) (x' : Value) (a' : Nat), e = .returned (dscV ⟨d.cyl, d.heads, d.per, d.size, S⟩ x') ∧ SecOwn w.heap.size w' x' S ∧ S.length = N ∧ (∀ s ∈ S, s.data.size = m) ∧ a' ≤ a + 32 * N ∧ DrAt w' g A n c0 a' ∧ Chg g (g + 1) w w' := by
  have hg := h.lt
  obtain ⟨X, c, rfl, _⟩ := OwnL.shape hd
  have HD := Lib.hid hd
  have HDAT := Lib.hid hdat
  have HNN := Lib.hid hN
  rw [hN]
  obtain ⟨R1, R2, F2, HB, zz⟩ := boxes2 w #[.int .i64 d.cyl, .int .i64 d.heads, .int .i64 d.per, .int .i64 d.size, .slice X N c] #[.int .i64 0, .int .i64 0, .int .i64 0, .int .i64 0, .slice none 0 0] 32 32
  have D0 := h.belowK (HB) (by omega)
  have C0 : Chg g (g + 1) w ((w.alloc (.cells #[.int .i64 d.cyl, .int .i64 d.heads, .int .i64 d.per, .int .i64 d.size, .slice X N c] 32)).alloc (.cells #[.int .i64 0, .int .i64 0, .int .i64 0, .int .i64 0, .slice none 0 0] 32)) := Chg.of_below HB
  have HOWN := Lib.hid (own_s Bd w.heap.size d (.slice X d.secs.length c) ((w.alloc (.cells #[.int .i64 d.cyl, .int .i64 d.heads, .int .i64 d.per, .int .i64 d.size, .slice X N c] 32)).alloc (.cells #[.int .i64 0, .int .i64 0, .int .i64 0, .int .i64 0, .slice none 0 0] 32)) (by rw [hN]; exact R1) (by omega) (OwnL.below hd HB) (by omega))
  clear hd h hdat hN
  go_enter Tryz.func75, Tryz.ntmps75
  go_wp2_with (fail)
  generalize ((w.alloc (.cells #[.int .i64 d.cyl, .int .i64 d.heads, .int .i64 d.per, .int .i64 d.size, .slice X N c] 32)).alloc (.cells #[.int .i64 0, .int .i64 0, .int .i64 0, .int .i64 0, .slice none 0 0] 32)) = w0 at *
  refine HOWN.out.mono ?_; rintro r w5 ⟨x5, rfl, ho5, hb5⟩
  obtain ⟨X5, c5, rfl, hX5⟩ := OwnL.shape ho5
  rw [HNN.out] at ho5 ⊢
  obtain ⟨gs, rfl, hg0, hg5⟩ := hX5.resolve_left (fun h0 => by have := HNN.out; rw [h0] at this; simp at this; omega)
  have z5 := hb5.size
  have hba : Below w5.heap.size w5 (w5.alloc (.cells #[.int .i64 d.cyl, .int .i64 d.heads, .int .i64 d.per, .int .i64 d.size, .slice (some ⟨gs, 0, none⟩) N c5] 32)) := Below.alloc (Below.refl _ _) (Nat.le_refl _) _
  have hb56 := hb5.trans (hba.mono z5)
  have HW : Hid (DrW g w (w.heap.size + 1) w5.heap.size [.int .i64 d.cyl, .int .i64 d.heads, .int .i64 d.per, .int .i64 d.size, .slice (some ⟨gs, 0, none⟩) N c5] (.slice (some ⟨gs, 0, none⟩) N c5) (w5.alloc (.cells #[.int .i64 d.cyl, .int .i64 d.heads, .int .i64 d.per, .int .i64 d.size, .slice (some ⟨gs, 0, none⟩) N c5] 32)) d.secs) := Lib.hid
    ⟨C0.belowK hb56 (by omega), R2.below hb56 (by omega), frozen_below F2 hb56 (by omega), Row.alloc w5 _ _, frozen_alloc w5 _ _, OwnL.below (OwnL.base ho5 (by omega)) hba, (fun e0 => by have e1 : some gs = some (w.heap.size + 1) := e0; injection e1 with e1; omega), (fun e0 => by have e1 : some gs = some w5.heap.size := e0; injection e1 with e1; omega), by omega, by omega, by omega, by simp; omega, by simp, hg⟩
  have HR := Lib.hid (R1.below hb56 (by omega))
  have D6 := D0.belowK hb56 (by omega)
  have HS0 : Hid (d.secs.length = N ∧ ∀ s ∈ d.secs, s.data.size = m) := Lib.hid ⟨HNN.out, HDAT.out⟩
  generalize hS0 : d.secs = S0 at HW HS0
  clear hS0 HD HDAT HNN R1 R2 F2 HB C0 HOWN ho5 hb5 hba hb56 hX5 D0
  go_wp2_with (fail)
  generalize (w5.alloc (.cells #[.int .i64 d.cyl, .int .i64 d.heads, .int .i64 d.per, .int .i64 d.size, .slice (some ⟨gs, 0, none⟩) N c5] 32)) = w6 at *
  obtain ⟨bd, hbd⟩ : ∃ bd, w5.heap.size = bd := ⟨_, rfl⟩
  rw [hbd] at HW ⊢
  have hgsb : w.heap.size + 1 < gs ∧ gs < bd := by omega
  clear hbd
  have HBY := Lib.hid (fun (w' : World) => bytes_s d.size w' hsz)
  rw [hm] at HBY
  have hggs : g < gs := by omega
  have HKS : Hid (∀ w' S, DrW g w (w.heap.size + 1) bd [.int .i64 d.cyl, .int .i64 d.heads, .int .i64 d.per, .int .i64 d.size, .slice (some ⟨gs, 0, none⟩) N c5] (.slice (some ⟨gs, 0, none⟩) N c5) w' S → Row w' w.heap.size [.int .i64 d.cyl, .int .i64 d.heads, .int .i64 d.per, .int .i64 d.size, .slice X N c] → w'.cell? ⟨bd, 4, none⟩ = some (.slice (some ⟨gs, 0, none⟩) N c5) ∧ w'.cell? ⟨w.heap.size, 3, none⟩ = some (.int .i64 d.size)) := Lib.hid fun w' S h1 h2 => ⟨h1.rd 4 _ rfl, h2 3 _ rfl⟩
  go_loopw [6] (fun ii wx => ∃ (k a' : Nat) (S : List Sec), k ≤ N ∧ ii = .int .i64 k ∧ a' ≤ a + 32 * k ∧ DrAt wx g A n c0 a' ∧ Hid (S.length = N ∧ ∀ s ∈ S, s.data.size = m) ∧ Hid (DrW g w (w.heap.size + 1) bd [.int .i64 d.cyl, .int .i64 d.heads, .int .i64 d.per, .int .i64 d.size, .slice (some ⟨gs, 0, none⟩) N c5] (.slice (some ⟨gs, 0, none⟩) N c5) wx S) ∧ Hid (Row wx w.heap.size [.int .i64 d.cyl, .int .i64 d.heads, .int .i64 d.per, .int .i64 d.size, .slice X N c])) (fun ii _ => N - (intOf ii).toNat)
  case atStart => exact ⟨0, a, S0, by omega, rfl, by omega, D6, HS0, HW, HR⟩
  case round =>
    clear HW D6 HS0 HR
    obtain ⟨k, a7, S, hk, rfl, ha7, D7, HS, HW, HR⟩ := hrel
    have x4 := HW.out.rd 4 _ rfl
    have hl1 := HW.out.l1
    by_cases hlt : k < N
    · have hki : (k : Int) < (N : Int) := by omega
      go_wp2_with (fail)
      refine (pick_s g A n c0 a7 5 _ D7 hn (by omega) (by omega)).mono ?_; rintro e w7 ⟨r, hr, rfl, a8, h81, h82, D8, C8, S8⟩
      have HW7 := Lib.hid (HW.out.chg C8)
      have HR7 := Lib.hid (HR.out.chgIn C8 (by omega) (.inr (by omega)))
      have hl7 := HW7.out.l1
      clear x4 D7 C8 S8 HW HR hl1
      obtain ⟨t, ht⟩ : ∃ t, S[k]? = some t := ⟨S[k]'(by have := HS.out.1; omega), List.getElem?_eq_getElem (by have := HS.out.1; omega)⟩
      have HT := Lib.hid ht
      clear ht
      by_cases h0 : r = 0
      · subst h0
        have HW7d := Lib.hid (HW7.out.below (Below.refl w7.heap.size w7).drew)
        have HR7d := Lib.hid (HR7.out.below (Below.refl w7.heap.size w7).drew (by omega))
        have D8d := D8.belowK (Below.refl w7.heap.size w7).drew D8.lt
        have HZ := Lib.hid (zeros_s m w7.drew (by omega))
        have k74 := HW7d.out.rd 4 _ rfl
        have k73 := HR7d.out 3 _ rfl
        have hne : w.heap.size ≠ gs := by omega
        have hg8 := D8.lt
        go_wp2_with (fail)
        go_region_held3 (fun w' => w'.cell? ⟨bd, 4, none⟩ = some (.slice (some ⟨gs, 0, none⟩) N c5) ∧ w'.cell? ⟨w.heap.size, 3, none⟩ = some (.int .i64 d.size))
          (first | with_reducible exact HKS.out _ _ HW7d.out HR7d.out | with_reducible exact HKS.out _ _ HW9.out HR9.out | with_reducible exact HKS.out _ _ HW10.out HR10.out)
          (first
            | (go_at_call 57; refine (HBY.out _).mono ?_; rintro r w8 ⟨rfl, rfl⟩)
            | (go_at_call 79; refine HZ.out.mono ?_; rintro r w9 ⟨rfl, hb9⟩; have HW9 := Lib.hid (HW7d.out.below hb9); have HR9 := Lib.hid (HR7d.out.below hb9 (by show w.heap.size < w7.heap.size; omega)); have D9 := D8d.belowK hb9 hg8; obtain ⟨q0, q1, fz⟩ := secs_at HW9.out.sec HS.out.1 HT.out; have k94 := HW9.out.rd 4 _ rfl; have HW10 := Lib.hid (HW9.out.grow (gset (gset (World.grownBy.refl w9 (some gs)) (k * 2) (.string (strN (List.replicate m 0)))) (k * 2 + 1) (.int .i64 3)) (fun q hq => by injection hq with hq; omega) (secs_set HW9.out.sec HS.out.1 hlt (zSec m))); have HR10 := Lib.hid ((HR9.out.set_other (g := gs) (o := k * 2) (.string (strN (List.replicate m 0))) hne).set_other (g := gs) (o := k * 2 + 1) (.int .i64 3) hne)))
        have D10 := (D9.setNew (b := gs) (o := k * 2) hggs (.string (strN (List.replicate m 0)))).setNew (b := gs) (o := k * 2 + 1) hggs (.int .i64 3)
        have HS10 : Hid ((S.set k (zSec m)).length = N ∧ ∀ s ∈ S.set k (zSec m), s.data.size = m) := Lib.hid ⟨by rw [List.length_set]; exact HS.out.1, fun u hu => by
          rcases List.mem_or_eq_of_mem_set hu with hu | rfl
          · exact HS.out.2 u hu
          · show (strN _).size = _; rw [strN_size, List.length_replicate]⟩
        clear q0 q1 fz k73 k74 k94 HW7 HW7d HR7 HR7d D8 D8d D9 HW9 HR9 HT HS HZ
        go_wp2_with (fail)
        go_roundw
        case rel => exact ⟨k + 1, a8, _, by omega, by go_num, by omega, D10, HS10, HW10, HR10⟩
        case measure => simp [intOf]; omega
      · by_cases h12 : r = 1 ∨ r = 2
        · have htm : t.data.size = m := HS.out.2 t (List.mem_of_getElem? HT.out)
          obtain ⟨cb, wb, hcv, hbuf, hbb, hwz⟩ := buf_of_str w7 t.data
          rw [htm] at hcv
          have hbl := (bts_len t.data).trans htm
          have HWb := Lib.hid (HW7.out.below hbb)
          have HRb := Lib.hid (HR7.out.below hbb (by omega))
          have DB := D8.belowK hbb D8.lt
          obtain ⟨q0, q1, fz⟩ := secs_at HW7.out.sec HS.out.1 HT.out
          have x4 := HW7.out.rd 4 _ rfl
          have hl72 := HW7.out.l2
          obtain ⟨gb, hgb⟩ : ∃ gb, w7.heap.size = gb := ⟨_, rfl⟩
          have hgg := D8.lt
          have HBF := Lib.hid hbuf
          clear hbuf htm D8 HW7 HR7
          rcases h12 with rfl | rfl
          all_goals
            go_wp2_with (fail)
            refine (pick_s g A n c0 a8 3 _ DB hn (by omega) (by omega)).mono ?_; rintro e w11 ⟨r3, hr3, rfl, a11, h111, h112, D11, C11, S11⟩
            have HW11 := Lib.hid (HWb.out.chg C11)
            have HR11 := Lib.hid (HRb.out.chgIn C11 (by omega) (.inr (by omega)))
            have HBF11 := Lib.hid (HBF.out.chg C11 (by omega) (.inl (by omega)))
            obtain ⟨Q, hQ⟩ : ∃ Q : Nat, 1 + (r3 : Int) = Q := ⟨1 + r3, by omega⟩
            have hQ3 : Q ≤ 3 := by omega
            rw [hgb] at HBF11
            clear hr3 DB C11 HWb HRb HBF q0 q1 fz x4 hcv
            have hgbx : w.heap.size + 1 < gb ∧ bd < gb ∧ g < gb ∧ gs < gb := by omega
            go_wp2_with (fail)
            go_loopw [8] (fun ii wx => ∃ (q a' : Nat) (l : List Nat), q ≤ 3 ∧ ii = .int .i64 q ∧ a' + 3 * q ≤ a8 + 11 ∧ DrAt wx g A n c0 a' ∧ l.length = m ∧ Hid (Buf wx gb l) ∧ Hid (DrW g w (w.heap.size + 1) bd [.int .i64 d.cyl, .int .i64 d.heads, .int .i64 d.per, .int .i64 d.size, .slice (some ⟨gs, 0, none⟩) N c5] (.slice (some ⟨gs, 0, none⟩) N c5) wx S) ∧ Hid (Row wx w.heap.size [.int .i64 d.cyl, .int .i64 d.heads, .int .i64 d.per, .int .i64 d.size, .slice X N c]) ∧ gb < wx.heap.size) (fun ii _ => (intOf ii).toNat)
            case atStart => exact ⟨Q, a11, bts t.data, hQ3, by first | rfl | rw [hQ], by omega, D11, hbl, HBF11, HW11, HR11, by omega⟩
            case round =>
              clear HW11 HR11 HBF11 D11
              obtain ⟨q, a12, l, hq3, rfl, ha12, D12, hll, HBF, HW, HR, hgbw⟩ := hrel
              by_cases hq0 : q = 0
              · subst hq0
                have hst := HBF.out.str (n := m) (c := cb) hll
                obtain ⟨q0, q1, fz⟩ := secs_at HW.out.sec HS.out.1 HT.out
                have x4 := HW.out.rd 4 _ rfl
                have hne : w.heap.size ≠ gs := by omega
                have hss : (strN l).size = m := by rw [strN_size]; exact hll
                generalize strN l = sl at *
                have HW10 := Lib.hid (HW.out.grow (gset (gset (World.grownBy.refl wr (some gs)) (k * 2) (.string sl)) (k * 2 + 1) (.int .i64 2)) (fun q hq => by injection hq with hq; omega) (secs_set HW.out.sec HS.out.1 hlt ⟨sl, 2⟩))
                have HR10 := Lib.hid ((HR.out.set_other (g := gs) (o := k * 2) (.string sl) hne).set_other (g := gs) (o := k * 2 + 1) (.int .i64 2) hne)
                have D10 := (D12.setNew (b := gs) (o := k * 2) hggs (.string sl)).setNew (b := gs) (o := k * 2 + 1) hggs (.int .i64 2)
                have HS10 : Hid ((S.set k ⟨sl, 2⟩).length = N ∧ ∀ s ∈ S.set k ⟨sl, 2⟩, s.data.size = m) := Lib.hid ⟨by rw [List.length_set]; exact HS.out.1, fun u hu => by
                  rcases List.mem_or_eq_of_mem_set hu with hu | rfl
                  · exact HS.out.2 u hu
                  · exact hss⟩
                clear HW HR HBF D12 HT HS hss hll
                go_wp2_with (fail)
                go_roundw
                case rel => exact ⟨k + 1, a12, _, by omega, by go_num, by omega, D10, HS10, HW10, HR10⟩
                case measure => simp [intOf]; omega
              · have hd1 : decide ((q : Int) > 0) = true := decide_eq_true (by omega)
                have hd2 : decide (0 < (q : Int)) = true := decide_eq_true (by omega)
                have hl2 := HW.out.l1
                go_wp2_with (fail)
                refine (pick_s g A n c0 a12 m _ D12 hn (by omega) (by omega)).mono ?_; rintro e w13 ⟨r4, hr4, rfl, a13, h131, h132, D13, C13, S13⟩
                have HW13 := Lib.hid (HW.out.chg C13)
                have HR13 := Lib.hid (HR.out.chgIn C13 (by omega) (.inr (by omega)))
                have HBF13 := Lib.hid (HBF.out.chg C13 hgbw (.inl (by omega)))
                have hz13 : wr.heap.size ≤ w13.heap.size := C13.size
                clear D12 C13 S13 HW HR HBF
                go_wp2_with (fail)
                refine (next_s g A n c0 a13 _ D13 hn (by omega)).mono ?_; rintro e w14 ⟨r5, hr5, rfl, D14, C14, S14⟩
                have HW14 := Lib.hid (HW13.out.chg C14)
                have HR14 := Lib.hid (HR13.out.chgIn C14 (by omega) (.inr (by omega)))
                have HBF14 := Lib.hid (HBF13.out.chg C14 (by omega) (.inl (by omega)))
                have hz14 : w13.heap.size ≤ w14.heap.size := C14.size
                have hr4m : r4 < m := by omega
                have hr4i : (r4 : Int) < (m : Int) := by omega
                obtain ⟨y, hy⟩ : ∃ y, l[r4]? = some y := ⟨l[r4]'(by omega), List.getElem?_eq_getElem (by omega)⟩
                obtain ⟨p1, p2⟩ := HBF14.out r4 y hy
                have HBF15 := Lib.hid (HBF14.out.set r5 hy)
                have hG : w14.grownBy (w14.setCell ⟨gb, r4, none⟩ (.int .u8 (r5 : Int))) (some gb) := gset (World.grownBy.refl w14 _) _ _
                have HW15 := Lib.hid (HW14.out.grow hG (fun q hq => by injection hq with hq; omega) (OwnL.kept HW14.out.sec hG (.inr (fun e0 => by have e1 : some gs = some gb := e0; injection e1 with e1; omega))))
                have HR15 := Lib.hid (HR14.out.set_other (g := gb) (o := r4) (.int .u8 (r5 : Int)) (by omega))
                have D15 := D14.setNew (b := gb) (o := r4) (by omega) (.int .u8 (r5 : Int))
                have hz15 : gb < (w14.setCell ⟨gb, r4, none⟩ (.int .u8 (r5 : Int))).heap.size := by rw [setCell_size]; omega
                clear D13 C14 S14 HW13 HR13 HBF13 HW14 HR14 HBF14 hy hG D14
                go_wp2_with (fail)
                go_roundw
                case rel => exact ⟨q - 1, a13 + 1, _, by omega, by first | (congr 1; omega) | go_num, by omega, D15, by rw [List.length_set]; exact hll, HBF15, HW15, HR15, hz15⟩
                case measure => simp [intOf]; omega
        · have e0 : ((r : Int) == 0) = false := by rw [beq_eq_false_iff_ne]; omega
          have e1 : ((r : Int) == 1) = false := by rw [beq_eq_false_iff_ne]; omega
          have e2 : ((r : Int) == 2) = false := by rw [beq_eq_false_iff_ne]; omega
          go_wp2_with (fail)
          go_roundw
          case rel => exact ⟨k + 1, a8, S, by omega, by go_num, by omega, D8, HS, HW7, HR7⟩
          case measure => simp [intOf]; omega
    · obtain rfl : N = k := by omega
      have y0 := HW.out.r2 0 _ rfl
      have y1 := HW.out.r2 1 _ rfl
      have y2 := HW.out.r2 2 _ rfl
      have y3 := HW.out.r2 3 _ rfl
      have y4 := HW.out.r2 4 _ rfl
      have f0 := HW.out.f2 0
      have f1 := HW.out.f2 1
      have f2 := HW.out.f2 2
      have f3 := HW.out.f2 3
      have f4 := HW.out.f2 4
      have x0 := HW.out.rd 0 _ rfl
      have x1 := HW.out.rd 1 _ rfl
      have x2 := HW.out.rd 2 _ rfl
      have x3 := HW.out.rd 3 _ rfl
      have R9 := set5_row HW.out.r2 (.int .i64 d.cyl) (.int .i64 d.heads) (.int .i64 d.per) (.int .i64 d.size) (.slice (some ⟨gs, 0, none⟩) N c5)
      have v0 := R9 0 _ rfl
      have v1 := R9 1 _ rfl
      have v2 := R9 2 _ rfl
      have v3 := R9 3 _ rfl
      have v4 := R9 4 _ rfl
      have hG : wr.grownBy (((((wr.setCell ⟨w.heap.size + 1, 0, none⟩ (.int .i64 d.cyl)).setCell ⟨w.heap.size + 1, 1, none⟩ (.int .i64 d.heads)).setCell ⟨w.heap.size + 1, 2, none⟩ (.int .i64 d.per)).setCell ⟨w.heap.size + 1, 3, none⟩ (.int .i64 d.size)).setCell ⟨w.heap.size + 1, 4, none⟩ (.slice (some ⟨gs, 0, none⟩) N c5)) (some (w.heap.size + 1)) := gset (gset (gset (gset (gset (World.grownBy.refl wr _) _ _) _ _) _ _) _ _) _ _
      have HO9 : Hid (SecOwn w.heap.size (((((wr.setCell ⟨w.heap.size + 1, 0, none⟩ (.int .i64 d.cyl)).setCell ⟨w.heap.size + 1, 1, none⟩ (.int .i64 d.heads)).setCell ⟨w.heap.size + 1, 2, none⟩ (.int .i64 d.per)).setCell ⟨w.heap.size + 1, 3, none⟩ (.int .i64 d.size)).setCell ⟨w.heap.size + 1, 4, none⟩ (.slice (some ⟨gs, 0, none⟩) N c5)) (.slice (some ⟨gs, 0, none⟩) N c5) S) := Lib.hid (OwnL.kept HW.out.sec hG (.inr HW.out.hb))
      have HC9 : Hid (Chg g (g + 1) w (((((wr.setCell ⟨w.heap.size + 1, 0, none⟩ (.int .i64 d.cyl)).setCell ⟨w.heap.size + 1, 1, none⟩ (.int .i64 d.heads)).setCell ⟨w.heap.size + 1, 2, none⟩ (.int .i64 d.per)).setCell ⟨w.heap.size + 1, 3, none⟩ (.int .i64 d.size)).setCell ⟨w.heap.size + 1, 4, none⟩ (.slice (some ⟨gs, 0, none⟩) N c5))) := Lib.hid (Chg.setNew (Chg.setNew (Chg.setNew (Chg.setNew (Chg.setNew HW.out.ch (Nat.le_succ _) _) (Nat.le_succ _) _) (Nat.le_succ _) _) (Nat.le_succ _) _) (Nat.le_succ _) _)
      have hg1 : g < w.heap.size + 1 := by omega
      have HD9 : Hid (DrAt (((((wr.setCell ⟨w.heap.size + 1, 0, none⟩ (.int .i64 d.cyl)).setCell ⟨w.heap.size + 1, 1, none⟩ (.int .i64 d.heads)).setCell ⟨w.heap.size + 1, 2, none⟩ (.int .i64 d.per)).setCell ⟨w.heap.size + 1, 3, none⟩ (.int .i64 d.size)).setCell ⟨w.heap.size + 1, 4, none⟩ (.slice (some ⟨gs, 0, none⟩) N c5)) g A n c0 a7) := Lib.hid (DrAt.setNew (DrAt.setNew (DrAt.setNew (DrAt.setNew (DrAt.setNew D7 hg1 _) hg1 _) hg1 _) hg1 _) hg1 _)
      clear R9 hG HW HKS HBY D7 HR
      go_wp2_with (fail)
      generalize (((((wr.setCell ⟨w.heap.size + 1, 0, none⟩ (.int .i64 d.cyl)).setCell ⟨w.heap.size + 1, 1, none⟩ (.int .i64 d.heads)).setCell ⟨w.heap.size + 1, 2, none⟩ (.int .i64 d.per)).setCell ⟨w.heap.size + 1, 3, none⟩ (.int .i64 d.size)).setCell ⟨w.heap.size + 1, 4, none⟩ (.slice (some ⟨gs, 0, none⟩) N c5)) = W9 at *
      exact bodyPost_ret (v := .agg #[.int .i64 d.cyl, .int .i64 d.heads, .int .i64 d.per, .int .i64 d.size, .slice (some ⟨gs, 0, none⟩) N c5]) (by simp [results, Tryz.results75, go_sem, v0, v1, v2, v3, v4] <;> rfl) rfl ⟨S, _, a7, rfl, HO9.out, HS.out.1, HS.out.2, ha7, HD9.out, HC9.out⟩
end Go.Proofs.YtddihmpiaemadaaGreatDoor
