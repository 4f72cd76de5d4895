/- FnSolvedBytes: the walk. -/
import Derived.Test.YtklalbbacbaoiaaA2U
import Derived.Test.YtklalbbacbaoiaaSvLaw
import Derived.Test.YtklalbbacbaoiaaSolI
import Derived.Deep.RegionHeld3
namespace Go.Proofs.Ytklalbbacbaoiaa
set_option linter.unusedVariables false
open Go.RowKit
set_option maxRecDepth 20000 in
set_option maxHeartbeats 4000000 in
theorem walkFnSolvedBytes (A A2 : Option Addr) (n c n2 c2 : Nat) (w : World) (h1 : BytesIn w A n) (h2 : BytesIn w A2 n2) (hm : n ≤ maxLen) (hm2 : n2 ≤ maxLen) :
    Calls Try.prog 14 #[.slice A n c, .slice A2 n2 c2] w fun e w' => e = .returned (.bool true) ∧ Below w.heap.size w w' := by
  have HL := a2long A A2 n c n2 c2 w hm hm2
  cases hlong : (decide (3000 < n) || decide (3000 < n2))
  rotate_left
  · rw [hlong] at HL
    go_enter Try.func14, Try.ntmps14
    go_wp2_with (go_at_call 45; refine HL.mono ?_; rintro e w1 ⟨rfl, rfl⟩)
    go_ret
    exact ⟨rfl, Below.refl _ _⟩
  · rw [hlong] at HL
    simp only [Bool.or_eq_false_iff, decide_eq_false_iff_not] at hlong
    have hn1 : n ≤ 3000 := by omega
    have hn2 : n2 ≤ 3000 := by omega
    clear hlong hm hm2
    obtain ⟨i0, hi, hz0, hz1, hz2⟩ := info_parts icell_info
    go_enter Try.func14, Try.ntmps14
    go_wp2_with (go_at_call 45; refine HL.mono ?_; rintro e w1 ⟨rfl, rfl⟩)
    refine (a2unknown_s A n c _ h1 (by omega)).mono ?_; rintro e w1 ⟨s, v, u, k, rfl, hD, -, hb1⟩
    have hs1 := hD.s1
    have hs2 := hD.s2
    have H2 := Lib.hid (h2.below hb1 (Nat.le_refl _))
    have z1 := hb1.size
    clear h1 h2 hD HL
    go_wp2_with (fail)
    obtain ⟨a, ha, HA⟩ := a2byte' A2 n2 c2 0 s.size w1 H2.out (by omega) (by omega) (by omega)
    refine (HA w1 rfl).mono ?_; rintro e w2 ⟨rfl, hW⟩; obtain rfl := hW.symm
    clear HA
    have has : a < s.size := by omega
    clear ha
    have O1 := Int64L.built1 w1 w1.heap.size (a : Int) (Nat.le_refl _)
    have B1 := hb1.alloc z1 (.cells #[.int .i64 (a : Int)] 2)
    have H21 := H2.out.below (Below.alloc (Below.refl w1.heap.size w1) (Nat.le_refl _) (.cells #[.int .i64 (a : Int)] 2)) (Nat.le_refl _)
    have z2 : w1.heap.size < (w1.alloc (.cells #[.int .i64 (a : Int)] 2)).heap.size := by simp
    go_upto_region 6 with (fail)
    have HH2 := Lib.hid H21
    have HO1 := Lib.hid O1
    have b12 : Below w1.heap.size w1 (w1.alloc (.cells #[.int .i64 (a : Int)] 2)) := Below.alloc (Below.refl w1.heap.size w1) (Nat.le_refl _) _
    generalize w1.alloc (.cells #[.int .i64 (a : Int)] 2) = w2 at *
    clear H21 O1
    obtain ⟨cc, wb, hcv, hbuf, hbb, hzb⟩ := buf_of_str w2 s
    have H2b := Lib.hid (HH2.out.below hbb (by omega))
    have Ob := Lib.hid (OwnL.below HO1.out hbb)
    have Bb := Lib.hid (B1.trans (hbb.mono (by omega)))
    obtain ⟨d1, hd1, HJ⟩ := a2byte' A2 n2 c2 1 256 wb H2b.out (by omega) (by omega) (by omega)
    have hd1' : d1 < 256 := by omega
    have hbl := bts_len s
    obtain ⟨x, hx⟩ : ∃ x, (bts s)[a]? = some x := ⟨(bts s)[a]'(by omega), List.getElem?_eq_getElem (by omega)⟩
    have hxb := bts_lt x (List.mem_of_getElem? hx)
    have hxor := xor_u8 x d1 hxb hd1'
    have hwu : IntKind.u8.wrap ((d1 : Nat) : Int) = d1 := by rw [IntKind.wrap_u8]; omega
    obtain ⟨c1, f1⟩ := hbuf a x hx
    have HBS := Lib.hid (hbuf.set (x ^^^ d1) hx)
    have HL1 : Hid (∀ y ∈ (bts s).set a (x ^^^ d1), y < 256) := Lib.hid (set_lt bts_lt (xor_lt8 hxb hd1'))
    have hl1 : ((bts s).set a (x ^^^ d1)).length = s.size := by rw [List.length_set]; exact hbl
    have HS1 : Hid (∀ j, j ≠ a → ((bts s).set a (x ^^^ d1)).getD j 0 = (bts s).getD j 0) := Lib.hid (fun j hj => by rw [List.getD_eq_getElem?_getD, List.getElem?_set_ne (Ne.symm hj), ← List.getD_eq_getElem?_getD])
    generalize (bts s).set a (x ^^^ d1) = bl at *
    clear hbuf hx hd1
    go_upto_region 7 with (fail)
    have q1 := (show ({ wb with drawn := wb.drawn + 1 } : World).cell? _ = _ from c1)
    have q2 := (show ({ wb with drawn := wb.drawn + 1 } : World).frozen? _ = _ from f1)
    have HJ1 := HJ ({ wb with drawn := wb.drawn + 1 } : World) rfl
    go_still_tail 9, (by kernel_rfl)
    still_call HJ1
    repeat still_step
    refine wpStill_nil ?_
    go_upto_region 8 with (fail)
    have HB : Buf (wb.setCell ⟨w2.heap.size, a, none⟩ (.int .u8 ((x ^^^ d1 : Nat) : Int))).drew w2.heap.size bl := HBS.out.block rfl
    have bb2 : Below w2.heap.size w2 (wb.setCell ⟨w2.heap.size, a, none⟩ (.int .u8 ((x ^^^ d1 : Nat) : Int))).drew := (hbb.setCell (Nat.le_refl _) _).drew
    have zb2 : w2.heap.size < (wb.setCell ⟨w2.heap.size, a, none⟩ (.int .u8 ((x ^^^ d1 : Nat) : Int))).drew.heap.size := by
      have : (wb.setCell ⟨w2.heap.size, a, none⟩ (.int .u8 ((x ^^^ d1 : Nat) : Int))).drew.heap.size = wb.heap.size := by simp
      omega
    clear HBS q1 q2 HJ1 HJ c1 f1 hcv H2b Ob Bb hbb hzb hxor hwu
    generalize (wb.setCell ⟨w2.heap.size, a, none⟩ (.int .u8 ((x ^^^ d1 : Nat) : Int))).drew = wr at *
    clear wb
    have H2r := HH2.out.below bb2 (by omega)
    have Or := Lib.hid (OwnL.below HO1.out bb2)
    have Br := B1.trans (bb2.mono (by omega))
    have b1r : Below w1.heap.size w1 wr := b12.trans (bb2.mono (by omega))
    clear b12 HH2 HO1 B1 bb2
    generalize hgb : w2.heap.size = gb at *
    clear hgb w2
    have HSB : Hid (∀ pl bl2, pl = (if a + 1 < s.size then [a, a + 1] else [a]) → bl2.length = s.size → (∀ x ∈ bl2, x < 256) → (∀ j, j ∉ pl → bl2.getD j 0 = (bts s).getD j 0) → ∀ v W, IntsAt W v (intsN pl) → Calls Try.prog 44 #[.string (strN bl2), v, .int .i64 (crcN (bts s) 65535)] W fun e w' => e = .returned (.tuple #[.string s, .int .i64 0]) ∧ Below W.heap.size W w') := Lib.hid (fun pl bl2 hpl h1 h2 h3 v W hI => by
      have := sol_i (strN bl2) (intsN pl) v (crcN (bts s) 65535) W hI (by rw [intsN_len, hpl]; split <;> simp) (by rw [strN_size, h1]; omega)
      rw [solved_law hs1 hs2 has hpl h1 h2 h3] at this
      exact this)
    have HCR := Lib.hid (fun W => crcs_i s W (by omega))
    generalize hcr : crcN (bts s) 65535 = cr at *
    clear hcr
    obtain ⟨a1, ha1⟩ : ∃ a1 : Nat, (a : Int) + 1 = a1 := ⟨a + 1, rfl⟩
    have hA1 : Hid (a1 = a + 1) := Lib.hid (by omega)
    by_cases hlt : a1 < s.size
    · have dd : decide ((a1 : Int) < (s.size : Int)) = true := by rw [decide_eq_true_eq]; omega
      have zgb : w1.heap.size < gb := z2
      have hbase : w1.heap.size ≤ wr.heap.size := by omega
      go_upto_region 10 with (at_builtin; refine wpList_app1 icell 1 icell_len _ rfl _ _ _ rfl w1.heap.size 2 i0 (.int .i64 0) 8 Try.underlying34 hi hz0 hz1 hz2 rfl (by decide) _ [(a : Int)] rfl (Or.out.alloc _) _ 1 (a1 : Int) rfl ?_ (by simp [icell, Value.oneCell']) (by simp) (by decide) (by simp; omega) ?_; (· intro j u hu; cases j with | zero => (simp [icell] at hu; subst hu; simp) | succ j => simp [icell] at hu); intro v8 w8 how8 hg8')
      have hg8 : (wr.alloc (.cells #[.int .i64 (a1 : Int)] 2)).grownBy w8 (some w1.heap.size) := hg8'
      have b18 : Below w1.heap.size w1 w8 := (b1r.alloc hbase (.cells #[.int .i64 (a1 : Int)] 2)).grown hg8 (by simp; omega) (fun q hq => by cases hq; omega)
      have z8 : wr.heap.size ≤ w8.heap.size := Nat.le_trans (by simp) hg8.size
      have B8 : Below w.heap.size w w8 := hb1.trans (b18.mono z1)
      have hB8 : Buf w8 gb bl := HB.block ((hg8.block gb (by simp; omega) (by intro e; cases e; omega)).trans ((World.grownBy_alloc wr (.cells #[.int .i64 (a1 : Int)] 2) none).block gb (by omega) (by simp)))
      have H28 := Lib.hid (H2.out.below b18 (Nat.le_refl _))
      have hne8 : ∀ q, v8.ownBlock = some q → q ≠ gb := by
        rintro q hq rfl
        obtain ⟨A8, c8, hv, hA8⟩ := intsAt_own how8
        obtain ⟨y, hy⟩ : ∃ y, bl[0]? = some y := ⟨bl[0]'(by omega), List.getElem?_eq_getElem (by omega)⟩
        obtain ⟨g8, rfl, _, hc8⟩ := hA8.resolve_left (by simp)
        rw [hv] at hq
        simp [Value.ownBlock] at hq
        subst hq
        have e1 := hc8 0 (a : Int) rfl
        rw [(hB8 0 y hy).1] at e1
        simp at e1
      have HO8 := Lib.hid how8
      have HH8 := Lib.hid hne8
      clear hg8 hg8' how8 hne8 HB b1r Or Br H2r H2
      obtain ⟨d2, hd2, HJ⟩ := a2byte' A2 n2 c2 2 256 w8 H28.out (by omega) (by omega) (by omega)
      have hd2' : d2 < 256 := by omega
      obtain ⟨x2, hx2⟩ : ∃ x2, bl[a1]? = some x2 := ⟨bl[a1]'(by omega), List.getElem?_eq_getElem (by omega)⟩
      have hxb2 := HL1.out x2 (List.mem_of_getElem? hx2)
      have hxor := xor_u8 x2 d2 hxb2 hd2'
      have hwu : IntKind.u8.wrap ((d2 : Nat) : Int) = d2 := by rw [IntKind.wrap_u8]; omega
      have hww : IntKind.i64.wrap ((a1 : Nat) : Int) = a1 := by rw [IntKind.wrap_i64]; omega
      obtain ⟨c1, f1⟩ := hB8 a1 x2 hx2
      have HBS := Lib.hid (hB8.set (x2 ^^^ d2) hx2)
      have hl2 : (bl.set a1 (x2 ^^^ d2)).length = s.size := by rw [List.length_set]; exact hl1
      have HSX := Lib.hid (fun v W h => HSB.out [a, a1] (bl.set a1 (x2 ^^^ d2)) (by rw [hA1.out, if_pos (by have := hA1.out; omega)]) hl2 (set_lt HL1.out (xor_lt8 hxb2 hd2')) (fun j hj => by
        simp at hj
        rw [List.getD_eq_getElem?_getD, List.getElem?_set_ne (Ne.symm hj.2), ← List.getD_eq_getElem?_getD]
        exact HS1.out j hj.1) v W h)
      generalize bl.set a1 (x2 ^^^ d2) = bl2 at *
      clear hx2 hd2 HSB hB8 HL1 HS1
      have q1 := (show ({ w8 with drawn := w8.drawn + 1 } : World).cell? _ = _ from c1)
      have q2 := (show ({ w8 with drawn := w8.drawn + 1 } : World).frozen? _ = _ from f1)
      have HJ1 := HJ ({ w8 with drawn := w8.drawn + 1 } : World) rfl
      go_still_tail 10, (by kernel_rfl)
      repeat still_step
      still_call HJ1
      repeat still_step
      refine wpStill_nil ?_
      go_upto_region 11 with (fail)
      have HB9 : Buf (w8.setCell ⟨gb, a1, none⟩ (.int .u8 ((x2 ^^^ d2 : Nat) : Int))).drew gb bl2 := HBS.out.block rfl
      have HO9 : Hid (Int64L w1.heap.size (w8.setCell ⟨gb, a1, none⟩ (.int .u8 ((x2 ^^^ d2 : Nat) : Int))).drew v8 ([(a : Int)] ++ [(a1 : Int)])) := Lib.hid (OwnL.blk HO8.out (fun q hq => Below.heap_setCell _ _ _ q (by rintro rfl; exact HH8.out _ hq rfl)))
      have B9 : Below w.heap.size w (w8.setCell ⟨gb, a1, none⟩ (.int .u8 ((x2 ^^^ d2 : Nat) : Int))).drew := (B8.setCell (by show w.heap.size ≤ gb; omega) _).drew
      have z9 : gb < (w8.setCell ⟨gb, a1, none⟩ (.int .u8 ((x2 ^^^ d2 : Nat) : Int))).drew.heap.size := by
        have : (w8.setCell ⟨gb, a1, none⟩ (.int .u8 ((x2 ^^^ d2 : Nat) : Int))).drew.heap.size = w8.heap.size := by simp
        omega
      clear HBS q1 q2 HJ1 HJ c1 f1 HO8 HH8 hxor hwu B8 b18 H28
      generalize (w8.setCell ⟨gb, a1, none⟩ (.int .u8 ((x2 ^^^ d2 : Nat) : Int))).drew = w9 at *
      have HZ := Lib.hid (fun W (hb : Below w9.heap.size w9 W) => (HB9.below hb z9).str (n := s.size) (c := cc) hl2)
      have HIA := Lib.hid (fun W (hb : Below w9.heap.size w9 W) => intsAt_own (OwnL.below HO9.out hb))
      have hst := HB9.str (n := s.size) (c := cc) hl2
      go_region_held3 (fun w' => (convert 54 9 (.slice (some ⟨gb, 0, none⟩) s.size cc)).run Try.prog w' = .ok (.string (strN bl2)) w')
        (first | go_keep | exact HZ.out _ (Below.refl _ _).drew | exact HZ.out _ (Below.trans (Below.refl _ _).drew hb10) | exact HZ.out _ (Below.refl _ _))
        (first | (go_at_call 47; refine (HCR.out _).mono ?_; rintro e w7 ⟨rfl, hW7⟩; obtain rfl := hW7.symm) | (go_at_call 44; refine (HSX.out _ _ (HIA.out _ (Below.refl _ _).drew)).mono ?_; rintro e w10 ⟨rfl, hb10⟩))
      go_wp2
      go_ret
      exact ⟨by first | rfl | simp, Below.trans B9.drew (hb10.mono B9.size)⟩
    · have hpl : [a] = (if a + 1 < s.size then [a, a + 1] else [a]) := by rw [if_neg (by have := hA1.out; omega)]
      have HSX := Lib.hid (fun W h => HSB.out [a] bl hpl hl1 HL1.out (fun j hj => HS1.out j (by simpa using hj)) (.slice (some ⟨w1.heap.size, 0, none⟩) 1 1) W h)
      have hst := HB.str (n := s.size) (c := cc) hl1
      have dd : decide ((a1 : Int) < (s.size : Int)) = false := by rw [decide_eq_false_iff_not]; omega
      clear HSB hpl
      go_wp2_with (fail)
      have HZ := Lib.hid (fun W (hb : Below wr.heap.size wr W) => (HB.below hb zb2).str (n := s.size) (c := cc) hl1)
      have HIA := Lib.hid (fun W (hb : Below wr.heap.size wr W) => intsAt_own (OwnL.below Or.out hb))
      go_region_held3 (fun w' => (convert 54 9 (.slice (some ⟨gb, 0, none⟩) s.size cc)).run Try.prog w' = .ok (.string (strN bl)) w')
        (first | go_keep | exact HZ.out _ (Below.refl _ _).drew | exact HZ.out _ (Below.trans (Below.refl _ _).drew hb8) | exact HZ.out _ (Below.refl _ _))
        (first | (go_at_call 47; refine (HCR.out _).mono ?_; rintro e w7 ⟨rfl, hW7⟩; obtain rfl := hW7.symm) | (go_at_call 44; refine (HSX.out _ (HIA.out _ (Below.refl _ _).drew)).mono ?_; rintro e w8 ⟨rfl, hb8⟩))
      go_wp2
      go_ret
      exact ⟨by first | rfl | simp, Below.trans Br.drew (hb8.mono Br.size)⟩
end Go.Proofs.Ytklalbbacbaoiaa
