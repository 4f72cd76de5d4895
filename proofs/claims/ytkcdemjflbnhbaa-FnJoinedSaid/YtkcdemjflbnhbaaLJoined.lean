/- FnJoined: the drawn ledgers and the walk. -/
import Derived.Test.YtkcdemjflbnhbaaJnF
import Derived.Test.YtkcdemjflbnhbaaJoinLaw
namespace Go.Proofs.Ytkcdemjflbnhbaa
set_option linter.unusedVariables false
open Go.RowKit
theorem EntB.grown {B E : Nat} {w w' : World} {v : Value} {l : List Ent} {row : Option Nat} (h : EntB B w v l) (hE : ∀ b, v.ownBlock = some b → b < E) (hg : w.grownBy w' row) (hr : ∀ k, row = some k → E ≤ k) : EntB B w' v l :=
  ⟨h.o.blk hg.size (fun b e => hg.block b (h.blk b e).2 (fun e2 => by have h1 := hr b e2.symm; have h2 := hE b e; omega)), fun b e => ⟨(h.blk b e).1, Nat.lt_of_lt_of_le (h.blk b e).2 hg.size⟩, h.len, h.vb⟩
/-- a drawn ledger, as the law uses it -/
structure JnK (w : World) (v : Value) (l : List Ent) : Prop where
  o : EntO w v l
  len : l.length ≤ 31
  vb : ∀ e ∈ l, e.verb.size ≤ 16
set_option maxRecDepth 20000 in
set_option maxHeartbeats 8000000 in
theorem drawJ_s (A : Option Addr) (n c : Nat) (w : World) (h : BytesIn w A n) (hn : n ≤ 1048576) :
    Calls Try.prog 34 #[.slice A n c] w fun e w' => ∃ (vx vy : Value) (x y : List Ent), e = .returned (.tuple #[vx, vy]) ∧ JnK w' vx x ∧ JnK w' vy y ∧ Below w.heap.size w w' := by
  have hD : DrAt (w.alloc (.cells #[.slice A n c, .int .i64 0, .int .u64 0] 72)) w.heap.size A n c 0 := by
    refine ⟨by simp, by simp, by simp, ⟨0, by simp⟩, by simp, ?_⟩
    rcases h with h | ⟨b, o, h1, h2, h3⟩
    · exact .inl h
    · exact .inr ⟨b, o, h1, h2, fun j hj => by
        obtain ⟨x, hx, hc⟩ := h3 j hj
        exact ⟨x, hx, (World.cell?_alloc_old _ _ _ (Nat.ne_of_lt h2)).trans hc⟩⟩
  have hB0 : Below w.heap.size w (w.alloc (.cells #[.slice A n c, .int .i64 0, .int .u64 0] 72)) := Below.alloc (Below.refl _ _) (Nat.le_refl _) _
  have hz0 : (w.alloc (.cells #[.slice A n c, .int .i64 0, .int .u64 0] 72)).heap.size = w.heap.size + 1 := by simp
  clear h
  go_enter Try.func34, Try.ntmps34
  go_upto_region 2 with (go_in)
  generalize (w.alloc (.cells #[.slice A n c, .int .i64 0, .int .u64 0] 72)) = w0 at *
  have hgw : w.heap.size < w0.heap.size := by omega
  generalize hg : w.heap.size = g at *
  have HG := Lib.hid hg
  clear hz0 hg
  go_wp2_with (fail)
  refine (bent_s g A n c 0 9 w0 hD hn (by omega) (by omega)).mono ?_; rintro e w1 ⟨vx, x, s1, s2, rfl, X1, hs1, hs2, a1, h11, h12, D1, C1⟩
  have HE := Lib.hid (fun b e => (X1.blk b e).2)
  have hz1 := C1.size
  have HX1 := Lib.hid (X1.keep (w' := w1.alloc (.cells #[] 49)) (by simp) (fun b h1 h2 => (World.grownBy_alloc w1 (.cells #[] 49) none).block b h2 (by simp)))
  have HY1 : Hid (EntL w1.heap.size (w1.alloc (.cells #[] 49)) (.slice (some ⟨w1.heap.size, 0, none⟩) 0 0) []) := Lib.hid (OwnL.of_empty w1 (Nat.le_refl _))
  have D1a := D1.alloc (.cells #[] 49)
  have HC1 := Lib.hid (C1.alloc (.cells #[] 49))
  clear X1 D1 C1 hD hs1
  go_wp2_with (fail)
  refine (pick_s g A n c a1 4 _ D1a hn (by omega) (by omega)).mono ?_; rintro e w2 ⟨r, hr, rfl, a2, h21, h22, D2, C2, S2⟩
  have hr3 : r ≤ 3 := by omega
  have HX2 := Lib.hid (HX1.out.chg C2 (by omega))
  have HY2 := Lib.hid (OwnL.chgIn HY1.out C2 (by omega))
  have HC2 := Lib.hid (HC1.out.trans C2)
  have HD2 := Lib.hid D2
  have z2 : w1.heap.size ≤ w2.heap.size := by rw [S2]; simp
  clear HX1 HY1 D1a HC1 C2 S2 D2 hr
  go_wp2_with (fail)
  go_loopw [9, 7, 8] (fun i at' out wx => ∃ (k a' : Nat) (s : ByteArray) (l : List Ent), i = .int .i64 k ∧ at' = .string s ∧ s.size ≤ 16 ∧ k ≤ r ∧ l.length + k ≤ r ∧ a' + 100 * k ≤ a2 + 100 * r ∧ w1.heap.size ≤ wx.heap.size ∧ Hid (LgK l) ∧ Hid (DrAt wx g A n c a') ∧ Hid (Chg g (g + 1) w0 wx) ∧ Hid (EntL w1.heap.size wx out l) ∧ Hid (EntB w0.heap.size wx vx x)) (fun i _ _ _ => (intOf i).toNat)
  case atStart => exact ⟨r, a2, s2, [], rfl, rfl, hs2, Nat.le_refl _, by simp, by omega, z2, Lib.hid LgK.nil, HD2, HC2, HY2, HX2⟩
  case round =>
    clear HD2 HC2 HY2 HX2
    obtain ⟨k, a3, s, l, rfl, rfl, hs, hk, hlk, ha3, hz1r, HK, HD, HC, HO, HX⟩ := hrel
    have hzr := HC.out.size
    by_cases hk0 : 0 < k
    · go_wp2_with (fail)
      refine (ldraw_s g A n c a3 4 _ HD.out hn (by omega) (by omega)).mono ?_; rintro e w3 ⟨s3, rfl, hs3, a4, h41, h42, D3, C3⟩
      have HC3 := Lib.hid (HC.out.trans C3)
      have HO3 := Lib.hid (OwnL.chgIn HO.out C3 (by omega))
      have HX3 := Lib.hid (HX.out.chg C3 (by omega))
      have z3 : w1.heap.size ≤ w3.heap.size := Nat.le_trans hz1r C3.size
      have HD3 := Lib.hid D3
      have hlo := World.ownsRow.lt HO3.out
      have hc1 := crcB_bd s
      have hc2 := crcB_bd s3
      have HN := fun b a => HK.out.next (s := { data := #[99, 111, 112, 121] }) (b := b) (a := a) (by omega) (by decide)
      clear C3 HC HO HD HX D3
      go_wp2_with (first
        | (go_at_call 43; first | (refine (check_s s _ (by omega)).mono ?_; rintro e w6 ⟨rfl, rfl⟩) | (refine (check_s s3 _ (by omega)).mono ?_; rintro e w6 ⟨rfl, rfl⟩))
        | (go_at_call 46; refine (append_s w1.heap.size _ l { data := #[99, 111, 112, 121] } _ _ _ HO3.out z3 (by omega) HK.out.lc (by decide) (by omega) (by omega)).mono ?_; rintro e w7 ⟨v7, rfl, how7, hg7⟩))
      go_roundw
      case rel => exact ⟨k - 1, a4, s3, _, by go_num, rfl, by omega, by omega, by simp; omega, by omega, Nat.le_trans z3 hg7.size, Lib.hid (HN _ _), Lib.hid (HD3.out.grown hg7 (fun q hq => by have := (hlo q hq).1; omega)), Lib.hid (HC3.out.grown hg7 (fun q hq => by have := (hlo q hq).1; omega)), Lib.hid how7, Lib.hid (HX3.out.grown HE.out hg7 (fun q hq => (hlo q hq).1))⟩
      case measure => simp [intOf]; omega
    · obtain rfl : k = 0 := by omega
      go_wp2_with (fail)
      refine (one_s g A n c a3 6 _ HD.out hn (by omega) (by omega)).mono ?_; rintro e w3 ⟨b3, rfl, a4, h41, h42, D3, C3, S3⟩
      have HC3 := Lib.hid (HC.out.trans C3)
      have HO3 := Lib.hid (OwnL.chgIn HO.out C3 (by omega))
      have HX3 := Lib.hid (HX.out.chg C3 (by omega))
      clear HC HO HD HX C3 S3
      have hfin : ∀ W, Chg g (g + 1) w0 W → Below g w W := fun W hc => hB0.trans ⟨hc.os, hc.tape, hc.output, hc.size, fun q hq => hc.block q (by omega) (by omega)⟩
      have HFI := Lib.hid hfin
      clear hfin
      cases b3
      · go_wp2
        exact bodyPost_ret (v := .tuple #[vx, u8]) (by simp [results, Try.results34, go_sem]) rfl ⟨vx, u8, x, l, rfl, ⟨HX3.out.o, HX3.out.len, HX3.out.vb⟩, ⟨EntO.of HO3.out, by have := HK.out.len; omega, HK.out.vb⟩, by rw [HG.out]; exact HFI.out _ HC3.out⟩
      · go_wp2_with (fail)
        refine (bent_s g A n c a4 2 w3 D3 hn (by omega) (by omega)).mono ?_; rintro e w4 ⟨vy, y, s4, s5, rfl, Y4, hs4, hs5, a5, h51, h52, D5, C5⟩
        have HX5 := Lib.hid (HX3.out.chg C5 (by omega))
        have HC5 := Lib.hid (HC3.out.trans C5)
        go_wp2
        exact bodyPost_ret (v := .tuple #[vx, vy]) (by simp [results, Try.results34, go_sem]) rfl ⟨vx, vy, x, y, rfl, ⟨HX5.out.o, HX5.out.len, HX5.out.vb⟩, ⟨Y4.o, Y4.len, Y4.vb⟩, by rw [HG.out]; exact HFI.out _ HC5.out⟩
abbrev st4 (w : World) (b : Nat) (u0 u1 u2 u3 : Value) : World := (((w.setCell ⟨b, 0, none⟩ u0).setCell ⟨b, 1, none⟩ u1).setCell ⟨b, 2, none⟩ u2).setCell ⟨b, 3, none⟩ u3
theorem ne_o {b x y : Nat} (h : x ≠ y) : (⟨b, x, none⟩ : Addr) ≠ ⟨b, y, none⟩ := fun e => by injection e with _ e2 _; exact h e2
theorem st4_at {w : World} {b : Nat} {u0 u1 u2 u3 t0 t1 t2 t3 : Value} (h0 : w.cell? ⟨b, 0, none⟩ = some t0) (h1 : w.cell? ⟨b, 1, none⟩ = some t1) (h2 : w.cell? ⟨b, 2, none⟩ = some t2) (h3 : w.cell? ⟨b, 3, none⟩ = some t3) :
    (st4 w b u0 u1 u2 u3).cell? ⟨b, 0, none⟩ = some u0 ∧ (st4 w b u0 u1 u2 u3).cell? ⟨b, 1, none⟩ = some u1 ∧ (st4 w b u0 u1 u2 u3).cell? ⟨b, 2, none⟩ = some u2 ∧ (st4 w b u0 u1 u2 u3).cell? ⟨b, 3, none⟩ = some u3 := by
  have O := fun (W : World) (x y : Nat) (u : Value) (h : x ≠ y) => World.cell?_setCell_other W _ _ u (ne_o (b := b) h)
  refine ⟨?_, ?_, ?_, ?_⟩
  · rw [O _ _ _ _ (by omega), O _ _ _ _ (by omega), O _ _ _ _ (by omega)]; exact World.cell?_setCell_same _ _ _ h0
  · rw [O _ _ _ _ (by omega), O _ _ _ _ (by omega)]; exact World.cell?_setCell_same _ _ _ (by rw [O _ _ _ _ (by omega)]; exact h1)
  · rw [O _ _ _ _ (by omega)]; exact World.cell?_setCell_same _ _ _ (by rw [O _ _ _ _ (by omega), O _ _ _ _ (by omega)]; exact h2)
  · exact World.cell?_setCell_same _ _ _ (by rw [O _ _ _ _ (by omega), O _ _ _ _ (by omega), O _ _ _ _ (by omega)]; exact h3)
theorem st4_below {B b : Nat} {w0 w : World} {u0 u1 u2 u3 : Value} (h : Below B w0 w) (hb : B ≤ b) : Below B w0 (st4 w b u0 u1 u2 u3) :=
  Below.setCell (Below.setCell (Below.setCell (Below.setCell h (p := ⟨b, 0, none⟩) hb _) (p := ⟨b, 1, none⟩) hb _) (p := ⟨b, 2, none⟩) hb _) (p := ⟨b, 3, none⟩) hb _
/-- the guard of long inputs -/
theorem b10long (A : Option Addr) (n c : Nat) (w : World) (hm : n ≤ maxLen) : Calls Try.prog 33 #[.slice A n c] w fun e w' => e = .returned (.bool (decide (1048576 < n))) ∧ w = w' := by
  go_enter Try.func33, Try.ntmps33
  go_wp2
  go_ret
  exact ⟨ret_bool (by rw [Bool.eq_iff_iff, decide_eq_true_eq, decide_eq_true_eq]; omega), rfl⟩
set_option maxRecDepth 20000 in
set_option maxHeartbeats 8000000 in
theorem walkFnJoined (A : Option Addr) (n c : Nat) (w : World) (h : BytesIn w A n) (hm : n ≤ maxLen) :
    Calls Try.prog 10 #[.slice A n c] w fun e w' => e = .returned (.bool true) ∧ Below w.heap.size w w' := by
  have HL := b10long A n c w hm
  cases hlong : decide (1048576 < n)
  rotate_left
  · rw [hlong] at HL
    go_enter Try.func10, Try.ntmps10
    go_wp2_with (go_at_call 33; refine HL.mono ?_; rintro e w1 ⟨rfl, rfl⟩)
    go_ret
    exact ⟨rfl, Below.refl _ _⟩
  · rw [hlong] at HL
    have hn : n ≤ 1048576 := by simpa using hlong
    clear hlong
    go_enter Try.func10, Try.ntmps10
    go_wp2_with (go_at_call 33; refine HL.mono ?_; rintro e w1 ⟨rfl, rfl⟩)
    refine (drawJ_s A n c _ h hn).mono ?_; rintro e w1 ⟨vx, vy, x, y, rfl, KX, KY, hb1⟩
    have hxl := KX.len
    have hyl := KY.len
    have HJ := Lib.hid (join_io vx vy x y w1 (by omega) (by omega) KX.o KY.o (fun e he => by have := KX.vb e he; omega) (fun e he => by have := KY.vb e he; omega))
    have HKX := Lib.hid KX
    have HKY := Lib.hid KY
    obtain ⟨Ax, cx, rfl, -, hAx⟩ := KX.o
    obtain ⟨Ay, cy, rfl, -, hAy⟩ := KY.o
    have z1 := hb1.size
    clear KX KY HL h
    go_wp2_with (fail)
    refine HJ.out.mono ?_; rintro e w2 ⟨v2, rfl, o2, hb2⟩
    have z2 := hb2.size
    have hB2 : Below w.heap.size w w2 := hb1.trans (hb2.mono z1)
    by_cases hj : (joinE x y).2 = 0
    rotate_left
    · have hd : ((joinE x y).2 != 0) = true := by simpa using hj
      generalize (joinE x y).2 = j at *
      clear hj HJ
      go_wp2_with (fail)
      go_ret
      exact ⟨rfl, hB2⟩
    · obtain ⟨hje, hjo, hjl⟩ := joined_law hj
      rw [hje] at o2 ⊢
      have HO2 := Lib.hid o2
      have hvb : ∀ e ∈ joinL x y, e.verb.size ≤ 1048576 := fun e he => by have := joinL_vb 16 y x HKX.out.vb HKY.out.vb e he; omega
      have HV := Lib.hid (valid_io v2 (joinL x y) w2 (by rw [join_len]; omega) (EntO.of o2.1) hvb)
      rw [hjo] at HV
      have hlen : (joinL x y).length = x.length + y.length := join_len x y
      obtain ⟨Aj, cj, hv, hAj⟩ := OwnL.shape o2.1
      rw [hlen] at hv
      subst hv
      have HX2 := Lib.hid (HKX.out.o.below hb2)
      have HY2 := Lib.hid (HKY.out.o.below hb2)
      have hjl2 : x.length + y.length ≤ 30 := hjl
      clear hje hj hjo hlen hvb o2 HJ hjl
      go_wp2_with (fail)
      refine HV.out.mono ?_; rintro e w3 ⟨rfl, hb3⟩
      have HB3 := hB2.trans (hb3.mono (by omega))
      have z3 := hb3.size
      clear HV
      go_wp2_with (fail)
      go_loopw [7] (fun i wr => ∃ k : Nat, k ≤ x.length + y.length ∧ i = .int .i64 k ∧ Below w2.heap.size w2 wr) (fun i _ => x.length + y.length - (intOf i).toNat)
      case atStart => exact ⟨0, by omega, rfl, hb3⟩
      case round =>
        clear hb3 HB3
        obtain ⟨k, hk, rfl, hbr⟩ := hrel
        have zr := hbr.size
        by_cases hlt : k < x.length + y.length
        · obtain ⟨gj, rfl, _, hgj⟩ := hAj.resolve_left (by intro e; have := join_len x y; rw [e] at this; simp at this; omega)
          have hJ : ∀ (W : World), Below w2.heap.size w2 W → ∀ e : Ent, (joinL x y)[k]? = some e → W.cell? ⟨gj, k * 4, none⟩ = some (.string e.verb) ∧ W.cell? ⟨gj, k * 4 + 1, none⟩ = some (.int .i64 e.before) ∧ W.cell? ⟨gj, k * 4 + 2, none⟩ = some (.int .i64 e.after) ∧ W.cell? ⟨gj, k * 4 + 3, none⟩ = some (.int .i64 e.chain) := fun W hW e he => by
            have o := OwnL.below HO2.out.1 hW
            exact ⟨OwnL.at1 (j := 0) Ent.len o he rfl, OwnL.at1 (j := 1) Ent.len o he rfl, OwnL.at1 (j := 2) Ent.len o he rfl, OwnL.at1 (j := 3) Ent.len o he rfl⟩
          have HJ := Lib.hid hJ
          clear hJ
          by_cases hkx : k < x.length
          · obtain ⟨e, he⟩ : ∃ e, x[k]? = some e := ⟨x[k], List.getElem?_eq_getElem hkx⟩
            have hje : (joinL x y)[k]? = some e := (joinL_left y x k hkx).trans he
            have HXr := HX2.out.below hbr
            obtain ⟨A', c', e1, _, hX⟩ := HXr
            injection e1 with e1 _ e2
            subst e1
            obtain ⟨ga, oa, rfl, hga⟩ := hX.resolve_left (by intro e; rw [e] at hkx; simp at hkx)
            obtain ⟨a0, a1, a2, a3⟩ := hga.2 k e he
            have hgaw := hga.1
            have s0 : (wr.alloc (.cells #[.string e.verb, .int .i64 e.before, .int .i64 e.after, .int .i64 e.chain] 49)).cell? ⟨wr.heap.size, 0, none⟩ = some (.string e.verb) := by simp
            have s1 : (wr.alloc (.cells #[.string e.verb, .int .i64 e.before, .int .i64 e.after, .int .i64 e.chain] 49)).cell? ⟨wr.heap.size, 1, none⟩ = some (.int .i64 e.before) := by simp
            have s2 : (wr.alloc (.cells #[.string e.verb, .int .i64 e.before, .int .i64 e.after, .int .i64 e.chain] 49)).cell? ⟨wr.heap.size, 2, none⟩ = some (.int .i64 e.after) := by simp
            have s3 : (wr.alloc (.cells #[.string e.verb, .int .i64 e.before, .int .i64 e.after, .int .i64 e.chain] 49)).cell? ⟨wr.heap.size, 3, none⟩ = some (.int .i64 e.chain) := by simp
            have B4 : Below wr.heap.size wr (wr.alloc (.cells #[.string e.verb, .int .i64 e.before, .int .i64 e.after, .int .i64 e.chain] 49)) := Below.alloc (Below.refl _ _) (Nat.le_refl _) _
            clear hX he HX2
            go_upto_region 16 with (fail)
            generalize (wr.alloc (.cells #[.string e.verb, .int .i64 e.before, .int .i64 e.after, .int .i64 e.chain] 49)) = W4 at *
            obtain ⟨j0, j1, j2, j3⟩ := HJ.out W4 (hbr.trans (B4.mono zr)) e hje
            have t0 : ∀ z : Wb W4, z.1.cell? ⟨wr.heap.size, 0, none⟩ = some (.string e.verb) := fun z => Wb.cell s0 z
            have t1 : ∀ z : Wb W4, z.1.cell? ⟨wr.heap.size, 1, none⟩ = some (.int .i64 e.before) := fun z => Wb.cell s1 z
            have t2 : ∀ z : Wb W4, z.1.cell? ⟨wr.heap.size, 2, none⟩ = some (.int .i64 e.after) := fun z => Wb.cell s2 z
            have t3 : ∀ z : Wb W4, z.1.cell? ⟨wr.heap.size, 3, none⟩ = some (.int .i64 e.chain) := fun z => Wb.cell s3 z
            have u0 : ∀ z : Wb W4, z.1.cell? ⟨gj, k * 4, none⟩ = some (.string e.verb) := fun z => Wb.cell j0 z
            have u1 : ∀ z : Wb W4, z.1.cell? ⟨gj, k * 4 + 1, none⟩ = some (.int .i64 e.before) := fun z => Wb.cell j1 z
            have u2 : ∀ z : Wb W4, z.1.cell? ⟨gj, k * 4 + 2, none⟩ = some (.int .i64 e.after) := fun z => Wb.cell j2 z
            have u3 : ∀ z : Wb W4, z.1.cell? ⟨gj, k * 4 + 3, none⟩ = some (.int .i64 e.chain) := fun z => Wb.cell j3 z
            clear s0 s1 s2 s3 j0 j1 j2 j3 a0 a1 a2 a3 hje HJ
            refine wp_region_wb (by kernel_rfl) (by kernel_rfl) ?_
            repeat (go_big_quiet_step (fail))
            refine wpQuiet_nil ?_; intro w5 hw'; obtain ⟨⟨wq, hb5⟩, hw''⟩ := hw'; subst hw''
            go_wp2
            go_roundw
            case rel => exact ⟨k + 1, by omega, by go_num, hbr.trans ((B4.mono (Nat.le_refl _)).trans (hb5.mono B4.size) |>.mono zr)⟩
            case measure => simp [intOf]; omega
          · obtain ⟨j, rfl⟩ : ∃ j, k = x.length + j := ⟨k - x.length, by omega⟩
            obtain ⟨e, he⟩ : ∃ e, y[j]? = some e := ⟨y[j]'(by omega), List.getElem?_eq_getElem (by omega)⟩
            obtain ⟨cc, hje⟩ := joinL_right y x j e he
            have HYr := HY2.out.below hbr
            obtain ⟨A', c', e1, _, hY⟩ := HYr
            injection e1 with e1 _ e2
            subst e1
            obtain ⟨ga, oa, rfl, hga⟩ := hY.resolve_left (by intro e; rw [e] at he; simp at he)
            obtain ⟨a0, a1, a2, a3⟩ := hga.2 j e he
            have hgaw := hga.1
            have s0 : (wr.alloc (.cells #[.string e.verb, .int .i64 e.before, .int .i64 e.after, .int .i64 e.chain] 49)).cell? ⟨wr.heap.size, 0, none⟩ = some (.string e.verb) := by simp
            have s1 : (wr.alloc (.cells #[.string e.verb, .int .i64 e.before, .int .i64 e.after, .int .i64 e.chain] 49)).cell? ⟨wr.heap.size, 1, none⟩ = some (.int .i64 e.before) := by simp
            have s2 : (wr.alloc (.cells #[.string e.verb, .int .i64 e.before, .int .i64 e.after, .int .i64 e.chain] 49)).cell? ⟨wr.heap.size, 2, none⟩ = some (.int .i64 e.after) := by simp
            have s3 : (wr.alloc (.cells #[.string e.verb, .int .i64 e.before, .int .i64 e.after, .int .i64 e.chain] 49)).cell? ⟨wr.heap.size, 3, none⟩ = some (.int .i64 e.chain) := by simp
            have B4 : Below wr.heap.size wr (wr.alloc (.cells #[.string e.verb, .int .i64 e.before, .int .i64 e.after, .int .i64 e.chain] 49)) := Below.alloc (Below.refl _ _) (Nat.le_refl _) _
            have djl : j < y.length := by omega
            have dkx : decide (((x.length + j : Nat) : Int) < (x.length : Int)) = false := by rw [decide_eq_false_iff_not]; omega
            have dkx2 : decide ((x.length : Int) + (j : Int) < (x.length : Int)) = false := by rw [decide_eq_false_iff_not]; omega
            have dkn : decide (x.length + j < x.length) = false := by rw [decide_eq_false_iff_not]; omega
            have ejk : ((x.length + j : Nat) : Int) - (x.length : Int) = (j : Int) := by omega
            clear hY he HY2
            go_upto_region 16 with (fail)
            generalize (wr.alloc (.cells #[.string e.verb, .int .i64 e.before, .int .i64 e.after, .int .i64 e.chain] 49)) = W4 at *
            obtain ⟨j0, j1, j2, j3⟩ := HJ.out W4 (hbr.trans (B4.mono zr)) ⟨e.verb, e.before, e.after, cc⟩ hje
            have t0 : ∀ z : Wb W4, z.1.cell? ⟨wr.heap.size, 0, none⟩ = some (.string e.verb) := fun z => Wb.cell s0 z
            have t1 : ∀ z : Wb W4, z.1.cell? ⟨wr.heap.size, 1, none⟩ = some (.int .i64 e.before) := fun z => Wb.cell s1 z
            have t2 : ∀ z : Wb W4, z.1.cell? ⟨wr.heap.size, 2, none⟩ = some (.int .i64 e.after) := fun z => Wb.cell s2 z
            have t3 : ∀ z : Wb W4, z.1.cell? ⟨wr.heap.size, 3, none⟩ = some (.int .i64 e.chain) := fun z => Wb.cell s3 z
            have u0 : ∀ z : Wb W4, z.1.cell? ⟨gj, (x.length + j) * 4, none⟩ = some (.string e.verb) := fun z => Wb.cell j0 z
            have u1 : ∀ z : Wb W4, z.1.cell? ⟨gj, (x.length + j) * 4 + 1, none⟩ = some (.int .i64 e.before) := fun z => Wb.cell j1 z
            have u2 : ∀ z : Wb W4, z.1.cell? ⟨gj, (x.length + j) * 4 + 2, none⟩ = some (.int .i64 e.after) := fun z => Wb.cell j2 z
            have u3 : ∀ z : Wb W4, z.1.cell? ⟨gj, (x.length + j) * 4 + 3, none⟩ = some (.int .i64 cc) := fun z => Wb.cell j3 z
            clear s0 s1 s2 s3 j0 j1 j2 j3 a0 a1 a2 a3 hje HJ
            refine wp_region_wb (by kernel_rfl) (by kernel_rfl) ?_
            repeat (go_big_quiet_step (fail))
            refine wpQuiet_nil ?_; intro w5 hw'; obtain ⟨⟨wq, hb5⟩, hw''⟩ := hw'; subst hw''
            go_wp2
            go_roundw
            case rel => exact ⟨x.length + j + 1, by omega, by go_num, hbr.trans ((B4.mono (Nat.le_refl _)).trans (hb5.mono B4.size) |>.mono zr)⟩
            case measure => simp [intOf]; omega
        · go_wp2
          go_ret
          exact ⟨rfl, hB2.trans (hbr.mono (by omega))⟩
end Go.Proofs.Ytkcdemjflbnhbaa
