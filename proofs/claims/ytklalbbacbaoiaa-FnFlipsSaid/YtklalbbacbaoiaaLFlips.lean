/- FnFlips: the walk. Printed by gen_lflips.py. -/
import Derived.Test.YtklalbbacbaoiaaA2U
import Derived.Test.YtklalbbacbaoiaaFlipLaw
import Derived.Deep.RegionHeld3
namespace Go.Proofs.Ytklalbbacbaoiaa
set_option linter.unusedVariables false
open Go.RowKit
set_option maxRecDepth 20000 in
set_option maxHeartbeats 8000000 in
theorem walkFnFlips (A A2 : Option Addr) (n c n2 c2 : Nat) (w : World) (h1 : BytesIn w A n) (h2 : BytesIn w A2 n2) (hm : n ≤ maxLen) (hm2 : n2 ≤ maxLen) :
    Calls Try.prog 13 #[.slice A n c, .slice A2 n2 c2] w fun e w' => e = .returned (.bool true) ∧ Below w.heap.size w w' := by
  have HL := a2long A A2 n c n2 c2 w hm hm2
  cases hlong : (decide (3000 < n) || decide (3000 < n2))
  rotate_left
  · rw [hlong] at HL
    go_enter Try.func13, Try.ntmps13
    go_wp2_with (go_at_call 45; refine HL.mono ?_; rintro e w1 ⟨rfl, rfl⟩)
    go_ret
    exact ⟨rfl, Below.refl _ _⟩
  · rw [hlong] at HL
    simp only [Bool.or_eq_false_iff, decide_eq_false_iff_not] at hlong
    have hn1 : n ≤ 3000 := by omega
    have hn2 : n2 ≤ 3000 := by omega
    clear hlong hm hm2
    obtain ⟨i0, hi, hz0, hz1, hz2⟩ := info_parts icell_info
    go_enter Try.func13, Try.ntmps13
    go_wp2_with (go_at_call 45; refine HL.mono ?_; rintro e w1 ⟨rfl, rfl⟩)
    refine (a2unknown_s A n c _ h1 (by omega)).mono ?_; rintro e w1 ⟨s, v, u, k, rfl, hD, -, hb1⟩
    have hs1 := hD.s1
    have hs2 := hD.s2
    have H2 := Lib.hid (h2.below hb1 (Nat.le_refl _))
    have z1 := hb1.size
    clear h1 h2 hD HL
    have HCR := Lib.hid (fun W => crcs_i s W (by omega))
    have HFF : Hid (∀ bit, bit < 8 * s.size → ∃ kk c : Int, ((kk = 0 ∧ c = 11) ∨ (kk = bit ∧ c = 0)) ∧ ∀ W, Calls Try.prog 23 #[.string (strN (flipN (bts s) bit)), .int .i64 (crcN (bts s) 65535)] W fun e w' => e = .returned (.tuple #[.int .i64 kk, .int .i64 c]) ∧ Below W.heap.size W w') := Lib.hid (fun bit hb => by
      have h0 := fun W => ff_i (strN (flipN (bts s) bit)) (crcN (bts s) 65535) W (by rw [strN_size, flipN_len, bts_len]; omega)
      rcases flips_law hs1 hs2 hb with h | h
      · rw [h] at h0; exact ⟨0, 11, .inl ⟨rfl, rfl⟩, h0⟩
      · rw [h] at h0; exact ⟨bit, 0, .inr ⟨rfl, rfl⟩, h0⟩)
    have HF0 : Hid (∀ W, Calls Try.prog 23 #[.string s, .int .i64 (crcN (bts s) 65535)] W fun e w' => e = .returned (.tuple #[.int .i64 (-1), .int .i64 0]) ∧ Below W.heap.size W w') := Lib.hid (fun W => by
      have h0 := ff_i s (crcN (bts s) 65535) W (by omega)
      rw [flips_law0 hs1 hs2] at h0
      exact h0)
    have HEF : Hid (∀ bit, bit < 8 * s.size → ∀ W, Calls Try.prog 21 #[.int .i64 s.size, .int .i64 bit] W fun e w' => e = .returned (.int .i64 ((crcN (bts s) 65535 ^^^ crcN (flipN (bts s) bit) 65535 : Nat) : Int)) ∧ Below W.heap.size W w') := Lib.hid (fun bit hb W => by
      have h0 := effR_i (s.size : Int) (bit : Int) W
      rw [flips_eff hs1 hs2 hb] at h0
      exact h0 (by omega) (by omega))
    have HBU0 : Hid (∀ bit bl, bit < 8 * s.size → (bl = flipN (bts s) bit ∨ (bit + 1 < 8 * s.size ∧ bl = flipN (flipN (bts s) bit) (bit + 1))) → ∃ L : List Nat, bit ∈ L ∧ ∀ W, Calls Try.prog 25 #[.string (strN bl), .int .i64 (crcN (bts s) 65535), .int .i64 4] W fun e w' => RInt64S.retI W (intsN L) 0 e w') := Lib.hid (fun bit bl hb hbl => by
      have h0 := fun W => bur_i (strN bl) (crcN (bts s) 65535) 4 W (by rw [strN_size]; rcases hbl with rfl | ⟨_, rfl⟩ <;> simp [flipN_len, bts_len] <;> omega)
      obtain ⟨hz, L, hL, hmm⟩ := bursts_law hs1 hs2 hb hbl
      rw [hz, hL] at h0
      exact ⟨L, hmm, h0⟩)
    have hcl := crcN_lt (bts s) 65535 (by omega)
    have HC2 : Hid (∀ bit, crcN (flipN (bts s) bit) 65535 < 65536) := Lib.hid (fun bit => crcN_lt _ _ (by omega))
    generalize hcr : crcN (bts s) 65535 = cr at *
    clear hcr
    obtain ⟨M, hM⟩ : ∃ M : Nat, 8 * (s.size : Int) = (M : Int) := ⟨8 * s.size, by push_cast; rfl⟩
    have HM8 : Hid (M = 8 * s.size) := Lib.hid (by omega)
    go_wp2_with (fail)
    refine (HCR.out _).mono ?_; rintro e w2 ⟨rfl, hW⟩; obtain rfl := hW.symm
    go_wp2_with (fail)
    obtain ⟨bit, hbit, HA⟩ := a2byte' A2 n2 c2 0 M w1 H2.out (by omega) (by omega) (by have := HM8.out; omega)
    refine (HA w1 rfl).mono ?_; rintro e w2 ⟨rfl, hW⟩; obtain rfl := hW.symm
    have hbs : bit < 8 * s.size := by have := HM8.out; omega
    clear HA hbit
    obtain ⟨kk, c0, hkc, HFI0⟩ := HFF.out bit hbs
    have HFI := Lib.hid HFI0
    have HEI := Lib.hid (HEF.out bit hbs)
    have HBU := Lib.hid (fun bl => HBU0.out bit bl hbs)
    have hc2 := HC2.out bit
    have HCR2 := Lib.hid (fun W => crcs_i (strN (flipN (bts s) bit)) W (by rw [strN_size, flipN_len, bts_len]; omega))
    rw [bts_strN (flipN_lt bts_lt)] at HCR2
    generalize hcr2 : crcN (flipN (bts s) bit) 65535 = cr2 at *
    have hxx := i64_xor_nat cr cr2 (by omega) (by omega)
    clear hcr2 HFI0 HFF HEF HBU0 HC2
    obtain ⟨cc, wb, hcv, hbuf, hbb, hzb⟩ := buf_of_str w1 s
    have Bb := hb1.trans (hbb.mono z1)
    have H2b := Lib.hid (H2.out.below hbb (Nat.le_refl _))
    obtain ⟨k1, r1, hk1, hr1, hr8, hbit1⟩ := bit_split bit
    have hbl := bts_len s
    have hkl : k1 < s.size := by omega
    obtain ⟨x, hx⟩ : ∃ x, (bts s)[k1]? = some x := ⟨(bts s)[k1]'(by omega), List.getElem?_eq_getElem (by omega)⟩
    obtain ⟨p1, p2⟩ := hbuf k1 x hx
    have hx8 := bts_lt x (List.mem_of_getElem? hx)
    have HS1 := Lib.hid (hbuf.set (x ^^^ 128 / 2 ^ r1) hx)
    rw [← flipN_at hk1 hr1 hx] at HS1
    have e1 : ((bit : Int) / 8) = (k1 : Int) := by omega
    have e2 : ((bit : Int) % 8) = (r1 : Int) := by omega
    have hxs := xor_sh x r1 hx8 hr8
    have HL1 : Hid (∀ y ∈ flipN (bts s) bit, y < 256) := Lib.hid (flipN_lt bts_lt)
    have hl1 : (flipN (bts s) bit).length = s.size := by rw [flipN_len]; exact hbl
    have HBB := Lib.hid (fun b2 (h : b2 = flipN (flipN (bts s) bit) (bit + 1)) (hm : bit + 1 < 8 * s.size) => HBU.out b2 (.inr ⟨hm, h⟩))
    have HB1 := Lib.hid (HBU.out (flipN (bts s) bit) (.inl rfl))
    clear hbuf hx hk1 hr1 hbit1
    go_upto_region 8 with (fail)
    have HB : Buf (wb.setCell ⟨w1.heap.size, k1, none⟩ (.int .u8 ((x ^^^ 128 / 2 ^ r1 : Nat) : Int))) w1.heap.size (flipN (bts s) bit) := HS1.out
    have Br : Below w.heap.size w (wb.setCell ⟨w1.heap.size, k1, none⟩ (.int .u8 ((x ^^^ 128 / 2 ^ r1 : Nat) : Int))) := Bb.setCell (by show w.heap.size ≤ w1.heap.size; omega) _
    have b1r : Below w1.heap.size w1 (wb.setCell ⟨w1.heap.size, k1, none⟩ (.int .u8 ((x ^^^ 128 / 2 ^ r1 : Nat) : Int))) := hbb.setCell (Nat.le_refl _) _
    have zr : w1.heap.size < (wb.setCell ⟨w1.heap.size, k1, none⟩ (.int .u8 ((x ^^^ 128 / 2 ^ r1 : Nat) : Int))).heap.size := by
      have : (wb.setCell ⟨w1.heap.size, k1, none⟩ (.int .u8 ((x ^^^ 128 / 2 ^ r1 : Nat) : Int))).heap.size = wb.heap.size := by simp
      omega
    clear p1 p2 hcv HS1 hbb hzb Bb
    generalize (wb.setCell ⟨w1.heap.size, k1, none⟩ (.int .u8 ((x ^^^ 128 / 2 ^ r1 : Nat) : Int))) = wr at *
    clear H2b wb
    have H2r := H2.out.below b1r (Nat.le_refl _)
    clear H2 b1r
    generalize hgb : w1.heap.size = gb at *
    have hgw : w.heap.size ≤ gb := z1
    clear hgb z1 hb1 w1
    have hst := HB.str (n := s.size) (c := cc) hl1
    generalize hbl1 : flipN (bts s) bit = bl1 at *
    go_wp2_with (fail)
    refine (HFI.out _).mono ?_; rintro e w5 ⟨rfl, hb5⟩
    have B5 := Br.trans (hb5.mono Br.size)
    have HB5 := HB.below hb5 zr
    have z5 : gb < w5.heap.size := by have := hb5.size; omega
    have H25 := H2r.below hb5 (Nat.le_refl _)
    clear HB H2r hst Br hb5 HFI
    obtain ⟨b1, hb1⟩ : ∃ b1 : Nat, (bit : Int) + 1 = b1 := ⟨bit + 1, rfl⟩
    have hb1' : Hid (b1 = bit + 1) := Lib.hid (by omega)
    rcases hkc with ⟨rfl, rfl⟩ | ⟨rfl, rfl⟩
    all_goals
      go_wp2_with (fail)
      refine (HF0.out _).mono ?_; rintro e w6 ⟨rfl, hb6⟩
      have B6 := B5.trans (hb6.mono B5.size)
      have HB6 := HB5.below hb6 z5
      have z6 : gb < w6.heap.size := by have := hb6.size; omega
      have H26 := H25.below hb6 (Nat.le_refl _)
      clear HB5 H25 B5 hb6 HF0
      have HZ := Lib.hid (fun W (hb : Below w6.heap.size w6 W) => (HB6.below hb z6).str (n := s.size) (c := cc) hl1)
      go_wp2_with (fail)
      go_region_held3 (fun w' => (convert 54 9 (.slice (some ⟨gb, 0, none⟩) s.size cc)).run Try.prog w' = .ok (.string (strN bl1)) w')
        (first | go_keep | exact HZ.out _ (Below.refl _ _).drew | exact HZ.out _ (Below.trans (Below.refl _ _).drew hb7) | exact HZ.out _ (Below.refl _ _))
        (first | (go_at_call 21; refine (HEI.out _).mono ?_; rintro e w7 ⟨rfl, hb7⟩) | (go_at_call 47; refine (HCR2.out _).mono ?_; rintro e w70 ⟨rfl, hW7⟩; obtain rfl := hW7.symm))
      have b67 : Below w6.heap.size w6 w7 := Below.trans (Below.refl _ _).drew hb7
      have B7 := B6.trans (b67.mono B6.size)
      have HB7 := HB6.below b67 z6
      have z7 : gb < w7.heap.size := by have := b67.size; omega
      have H27 := Lib.hid (H26.below b67 (Nat.le_refl _))
      clear HB6 H26 B6 b67 hb7 HZ HEI HCR2 HCR
      by_cases h12 : 12 < s.size
      · have d12 : decide ((12 : Int) < (s.size : Int)) = true := by rw [decide_eq_true_eq]; omega
        go_wp2
        go_ret
        exact ⟨rfl, B7⟩
      · have d12 : decide ((12 : Int) < (s.size : Int)) = false := by rw [decide_eq_false_iff_not]; omega
        by_cases hbM : b1 < M
        · have dbM : decide ((b1 : Int) < (M : Int)) = true := by rw [decide_eq_true_eq]; omega
          have hb1s : bit + 1 < 8 * s.size := by have := HM8.out; have := hb1'.out; omega
          obtain ⟨q, hq, HA⟩ := a2byte' A2 n2 c2 1 2 w7 H27.out (by omega) (by omega) (by omega)
          have hq2 : q = 0 ∨ q = 1 := by omega
          go_wp2_with (fail)
          refine (HA w7 rfl).mono ?_; rintro e w2 ⟨rfl, hW⟩; obtain rfl := hW.symm
          clear HA hq
          rcases hq2 with rfl | rfl
          · have HB3 := Lib.hid HB7
            have B3 := B7
            have hl3 := hl1
            clear HB7 B7
            go_upto_region 18 with (fail)
            obtain ⟨L, hmem, HB0⟩ := HBU.out bl1 (.inl rfl)
            have HBL := Lib.hid HB0
            have HM := Lib.hid hmem
            have hst := HB3.out.str (n := s.size) (c := cc) hl3
            clear HBU hmem HB0
            go_wp2_with (fail)
            refine (HBL.out _).mono ?_; rintro e w8 ⟨v8, rfl, o8, hb8⟩
            have B8 : Below w.heap.size w w8 := B3.trans (hb8.mono B3.size)
            have hLl := OwnL.le o8.1
            rw [intsN_len] at hLl
            unfold maxLen at hLl
            obtain ⟨A8, c8, rfl, hA8⟩ := intsAt_own o8.1
            rw [intsN_len]
            have HA8 := Lib.hid hA8
            clear hA8 hb8 o8 HBL HB3 hst B3
            go_wp2
            go_loopw [16, 15] (fun i f wr => ∃ (k : Nat) (ff : Bool), k ≤ L.length ∧ i = .int .i64 k ∧ f = .bool ff ∧ Hid (ff = decide (bit ∈ L.take k)) ∧ wr = w8) (fun i _ _ => L.length - (intOf i).toNat)
            case atStart => exact ⟨0, false, by omega, rfl, rfl, Lib.hid (by simp), rfl⟩
            case round =>
              obtain ⟨k, ff, hk, rfl, rfl, HF, rfl⟩ := hrel
              by_cases hltk : k < L.length
              · obtain ⟨b, hbk⟩ : ∃ b, L[k]? = some b := ⟨L[k], List.getElem?_eq_getElem hltk⟩
                obtain ⟨gu, rfl, hgu, hcu⟩ := HA8.out.resolve_left (by intro h0; have := congrArg List.length h0; rw [intsN_len] at this; simp only [List.length_nil] at this; omega)
                have p0 := hcu k _ (intsN_get hbk)
                have HT : Hid (decide (bit ∈ L.take (k + 1)) = (decide (bit ∈ L.take k) || decide (b = bit))) := Lib.hid (by rw [List.take_add_one, hbk]; simp [Option.toList, eq_comm])
                clear hbk hcu HA8
                cases ff
                · cases hbb : ((b : Int) == (bit : Int))
                  · have HN : Hid (false = decide (bit ∈ L.take (k + 1))) := Lib.hid (by rw [HT.out, ← HF.out]; simp at hbb; simp; omega)
                    go_wp2
                    go_roundw
                    case rel => exact ⟨k + 1, false, by omega, by go_num, rfl, HN, by first | trivial | rfl⟩
                    case measure => simp [intOf]; omega
                  · have HN : Hid (true = decide (bit ∈ L.take (k + 1))) := Lib.hid (by rw [HT.out, ← HF.out]; simp at hbb; simp; omega)
                    go_wp2
                    go_roundw
                    case rel => exact ⟨k + 1, true, by omega, by go_num, rfl, HN, by first | trivial | rfl⟩
                    case measure => simp [intOf]; omega
                · have HN : Hid (true = decide (bit ∈ L.take (k + 1))) := Lib.hid (by rw [HT.out, ← HF.out]; simp)
                  go_wp2
                  go_roundw
                  case rel => exact ⟨k + 1, true, by omega, by go_num, rfl, HN, by first | trivial | rfl⟩
                  case measure => simp [intOf]; omega
              · obtain rfl : k = L.length := by omega
                obtain rfl : ff = true := by rw [HF.out, List.take_length]; exact decide_eq_true HM.out
                go_wp2
                go_ret
                exact ⟨rfl, B8⟩
          · obtain ⟨k2, r2, hk2, hr2, hr28, hbit2⟩ := bit_split b1
            have hkl2 : k2 < s.size := by have := HM8.out; omega
            obtain ⟨x2, hx2⟩ : ∃ x, bl1[k2]? = some x := ⟨bl1[k2]'(by omega), List.getElem?_eq_getElem (by omega)⟩
            obtain ⟨p1, p2⟩ := HB7 k2 x2 hx2
            have hx28 := HL1.out x2 (List.mem_of_getElem? hx2)
            have HS2 := Lib.hid (HB7.set (x2 ^^^ 128 / 2 ^ r2) hx2)
            rw [← flipN_at hk2 hr2 hx2] at HS2
            have e3 : ((b1 : Int) / 8) = (k2 : Int) := by omega
            have e4 : ((b1 : Int) % 8) = (r2 : Int) := by omega
            have hxs2 := xor_sh x2 r2 hx28 hr28
            have hl3 : (flipN bl1 b1).length = s.size := by rw [flipN_len]; exact hl1
            clear hx2 hk2 hr2 hbit2
            go_upto_region 18 with (fail)
            have HB3 := HS2
            have B3 : Below w.heap.size w (w7.setCell ⟨gb, k2, none⟩ (.int .u8 ((x2 ^^^ 128 / 2 ^ r2 : Nat) : Int))) := B7.setCell (by show w.heap.size ≤ gb; omega) _
            clear p1 p2 HB7 B7 HS2
            generalize (w7.setCell ⟨gb, k2, none⟩ (.int .u8 ((x2 ^^^ 128 / 2 ^ r2 : Nat) : Int))) = w9 at *
            obtain ⟨L, hmem, HB0⟩ := HBU.out (flipN bl1 b1) (.inr ⟨hb1s, by rw [hb1'.out]⟩)
            have HBL := Lib.hid HB0
            have HM := Lib.hid hmem
            have hst := HB3.out.str (n := s.size) (c := cc) hl3
            clear HBU hmem HB0
            go_wp2_with (fail)
            refine (HBL.out _).mono ?_; rintro e w8 ⟨v8, rfl, o8, hb8⟩
            have B8 : Below w.heap.size w w8 := B3.trans (hb8.mono B3.size)
            have hLl := OwnL.le o8.1
            rw [intsN_len] at hLl
            unfold maxLen at hLl
            obtain ⟨A8, c8, rfl, hA8⟩ := intsAt_own o8.1
            rw [intsN_len]
            have HA8 := Lib.hid hA8
            clear hA8 hb8 o8 HBL HB3 hst B3
            go_wp2
            go_loopw [16, 15] (fun i f wr => ∃ (k : Nat) (ff : Bool), k ≤ L.length ∧ i = .int .i64 k ∧ f = .bool ff ∧ Hid (ff = decide (bit ∈ L.take k)) ∧ wr = w8) (fun i _ _ => L.length - (intOf i).toNat)
            case atStart => exact ⟨0, false, by omega, rfl, rfl, Lib.hid (by simp), rfl⟩
            case round =>
              obtain ⟨k, ff, hk, rfl, rfl, HF, rfl⟩ := hrel
              by_cases hltk : k < L.length
              · obtain ⟨b, hbk⟩ : ∃ b, L[k]? = some b := ⟨L[k], List.getElem?_eq_getElem hltk⟩
                obtain ⟨gu, rfl, hgu, hcu⟩ := HA8.out.resolve_left (by intro h0; have := congrArg List.length h0; rw [intsN_len] at this; simp only [List.length_nil] at this; omega)
                have p0 := hcu k _ (intsN_get hbk)
                have HT : Hid (decide (bit ∈ L.take (k + 1)) = (decide (bit ∈ L.take k) || decide (b = bit))) := Lib.hid (by rw [List.take_add_one, hbk]; simp [Option.toList, eq_comm])
                clear hbk hcu HA8
                cases ff
                · cases hbb : ((b : Int) == (bit : Int))
                  · have HN : Hid (false = decide (bit ∈ L.take (k + 1))) := Lib.hid (by rw [HT.out, ← HF.out]; simp at hbb; simp; omega)
                    go_wp2
                    go_roundw
                    case rel => exact ⟨k + 1, false, by omega, by go_num, rfl, HN, by first | trivial | rfl⟩
                    case measure => simp [intOf]; omega
                  · have HN : Hid (true = decide (bit ∈ L.take (k + 1))) := Lib.hid (by rw [HT.out, ← HF.out]; simp at hbb; simp; omega)
                    go_wp2
                    go_roundw
                    case rel => exact ⟨k + 1, true, by omega, by go_num, rfl, HN, by first | trivial | rfl⟩
                    case measure => simp [intOf]; omega
                · have HN : Hid (true = decide (bit ∈ L.take (k + 1))) := Lib.hid (by rw [HT.out, ← HF.out]; simp)
                  go_wp2
                  go_roundw
                  case rel => exact ⟨k + 1, true, by omega, by go_num, rfl, HN, by first | trivial | rfl⟩
                  case measure => simp [intOf]; omega
              · obtain rfl : k = L.length := by omega
                obtain rfl : ff = true := by rw [HF.out, List.take_length]; exact decide_eq_true HM.out
                go_wp2
                go_ret
                exact ⟨rfl, B8⟩
        · have dbM : decide ((b1 : Int) < (M : Int)) = false := by rw [decide_eq_false_iff_not]; omega
          have HB3 := Lib.hid HB7
          have B3 := B7
          have hl3 := hl1
          clear HB7 B7
          go_upto_region 18 with (fail)
          obtain ⟨L, hmem, HB0⟩ := HBU.out bl1 (.inl rfl)
          have HBL := Lib.hid HB0
          have HM := Lib.hid hmem
          have hst := HB3.out.str (n := s.size) (c := cc) hl3
          clear HBU hmem HB0
          go_wp2_with (fail)
          refine (HBL.out _).mono ?_; rintro e w8 ⟨v8, rfl, o8, hb8⟩
          have B8 : Below w.heap.size w w8 := B3.trans (hb8.mono B3.size)
          have hLl := OwnL.le o8.1
          rw [intsN_len] at hLl
          unfold maxLen at hLl
          obtain ⟨A8, c8, rfl, hA8⟩ := intsAt_own o8.1
          rw [intsN_len]
          have HA8 := Lib.hid hA8
          clear hA8 hb8 o8 HBL HB3 hst B3
          go_wp2
          go_loopw [16, 15] (fun i f wr => ∃ (k : Nat) (ff : Bool), k ≤ L.length ∧ i = .int .i64 k ∧ f = .bool ff ∧ Hid (ff = decide (bit ∈ L.take k)) ∧ wr = w8) (fun i _ _ => L.length - (intOf i).toNat)
          case atStart => exact ⟨0, false, by omega, rfl, rfl, Lib.hid (by simp), rfl⟩
          case round =>
            obtain ⟨k, ff, hk, rfl, rfl, HF, rfl⟩ := hrel
            by_cases hltk : k < L.length
            · obtain ⟨b, hbk⟩ : ∃ b, L[k]? = some b := ⟨L[k], List.getElem?_eq_getElem hltk⟩
              obtain ⟨gu, rfl, hgu, hcu⟩ := HA8.out.resolve_left (by intro h0; have := congrArg List.length h0; rw [intsN_len] at this; simp only [List.length_nil] at this; omega)
              have p0 := hcu k _ (intsN_get hbk)
              have HT : Hid (decide (bit ∈ L.take (k + 1)) = (decide (bit ∈ L.take k) || decide (b = bit))) := Lib.hid (by rw [List.take_add_one, hbk]; simp [Option.toList, eq_comm])
              clear hbk hcu HA8
              cases ff
              · cases hbb : ((b : Int) == (bit : Int))
                · have HN : Hid (false = decide (bit ∈ L.take (k + 1))) := Lib.hid (by rw [HT.out, ← HF.out]; simp at hbb; simp; omega)
                  go_wp2
                  go_roundw
                  case rel => exact ⟨k + 1, false, by omega, by go_num, rfl, HN, by first | trivial | rfl⟩
                  case measure => simp [intOf]; omega
                · have HN : Hid (true = decide (bit ∈ L.take (k + 1))) := Lib.hid (by rw [HT.out, ← HF.out]; simp at hbb; simp; omega)
                  go_wp2
                  go_roundw
                  case rel => exact ⟨k + 1, true, by omega, by go_num, rfl, HN, by first | trivial | rfl⟩
                  case measure => simp [intOf]; omega
              · have HN : Hid (true = decide (bit ∈ L.take (k + 1))) := Lib.hid (by rw [HT.out, ← HF.out]; simp)
                go_wp2
                go_roundw
                case rel => exact ⟨k + 1, true, by omega, by go_num, rfl, HN, by first | trivial | rfl⟩
                case measure => simp [intOf]; omega
            · obtain rfl : k = L.length := by omega
              obtain rfl : ff = true := by rw [HF.out, List.take_length]; exact decide_eq_true HM.out
              go_wp2
              go_ret
              exact ⟨rfl, B8⟩
end Go.Proofs.Ytklalbbacbaoiaa
