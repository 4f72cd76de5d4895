/- FnFindDamaged: the walk. -/
import Derived.Test.YtkdadaocbfbndaaLParity
import Derived.Test.YtkdadaocbfbndaaFdLaw
import Derived.Test.YtkdadaocbfbndaaA2B
import Derived.Deep.RegionHeld3
namespace Go.Proofs.Ytkdadaocbfbndaa
set_option linter.unusedVariables false
open Go.RowKit
set_option maxRecDepth 20000 in
set_option maxHeartbeats 4000000 in
theorem walkFnFindDamaged (A A2 : Option Addr) (n c n2 c2 : Nat) (w : World) (h1 : BytesIn w A n) (h2 : BytesIn w A2 n2) (hm : n ≤ maxLen) (hm2 : n2 ≤ maxLen) :
    Calls Try.prog 10 #[.slice A n c, .slice A2 n2 c2] w fun e w' => e = .returned (.bool true) ∧ Below w.heap.size w w' := by
  have HL := a2long A A2 n c n2 c2 w hm hm2
  cases hlong : (decide (3000 < n) || decide (3000 < n2))
  rotate_left
  · rw [hlong] at HL
    go_enter Try.func10, Try.ntmps10
    go_wp2_with (go_at_call 32; refine HL.mono ?_; rintro e w1 ⟨rfl, rfl⟩)
    go_ret
    exact ⟨rfl, Below.refl _ _⟩
  · rw [hlong] at HL
    simp only [Bool.or_eq_false_iff, decide_eq_false_iff_not] at hlong
    have hn1 : n ≤ 3000 := by omega
    have hn2 : n2 ≤ 3000 := by omega
    clear hlong hm hm2
    obtain ⟨i0, hi, hz0, hz1, hz2⟩ := info_parts scell_info
    go_enter Try.func10, Try.ntmps10
    go_wp2_with (go_at_call 32; refine HL.mono ?_; rintro e w1 ⟨rfl, rfl⟩)
    refine (a2group_s A n c _ h1 (by omega)).mono ?_; rintro e w1 ⟨v, l, rfl, O1, hg, hb1⟩
    obtain ⟨s0, hs0, hs1, hs2, hl1, hl2, hls⟩ := groupB_size hg
    obtain ⟨Ab, cb, rfl, hAb⟩ := OwnL.shape O1
    obtain ⟨g1, rfl, hg1w, hg1⟩ := hAb.resolve_left (by rintro rfl; simp at hl1)
    clear hAb h1 hs0
    have H2 := Lib.hid (h2.below hb1 (Nat.le_refl _))
    have z1 := hb1.size
    have HM := mk_i l (.slice (some ⟨g1, 0, none⟩) l.length cb) w1 (strL_own O1) (by omega)
    have hc0 : (mkR l).2.2 = 0 := by obtain ⟨s, hs, _⟩ := groupB_size hg; rw [mkR_yes hg hs]
    unfold mkV at HM
    rw [hc0] at HM
    have hpq : (mkR l).1.size ≤ 64 ∧ (mkR l).2.1.size ≤ 64 := by
      obtain ⟨s, hs, q1, q2, q3, q4, q5⟩ := groupB_size hg
      have hpl := (parF_len (n := s.size) (k := 0) (l := l) (p := List.replicate s.size 0) (q := List.replicate s.size 0) (by simp) (by simp) (fun t ht => .inr (q5 t ht)))
      rw [mkR_yes hg hs]
      simp only [strN_size]
      omega
    have HFd := fun (l' : List ByteArray) v' w' (h : StrL w' v' l') (hm : l'.length ≤ 1048576) hp hq => fd_i l' (mkR l).1 (mkR l).2.1 v' w' h hm hp hq
    have HS0 := fd_same hg
    have HU := fun (k j d : Nat) (s : ByteArray) (hk : l[k]? = some s) (hj : j < s.size) (hd : d < 256) (hd0 : d ≠ 0) => fd_law hg hk hj hd hd0
    have hne0 : ([] : List ByteArray) ++ l ≠ [] := by intro h; rw [List.nil_append] at h; rw [h] at hl1; simp at hl1
    have HNE := Lib.hid hne0
    clear hne0
    have HO1 := Lib.hid O1
    have HHU := Lib.hid HU
    have HHC := Lib.hid HFd
    have HHS := Lib.hid HS0
    clear O1 HU HFd hc0 h2 HS0
    generalize (mkR l).1 = p at *
    generalize (mkR l).2.1 = q at *
    go_wp2_with (fail)
    refine HM.mono ?_; rintro e w2 ⟨rfl, hb2⟩
    have z2 := hb2.size
    go_wp2_with (fail)
    have HF0 := HHC.out l _ w2 ((strL_own HO1.out).below hb2 (Nat.le_refl _)) (by omega) (by omega) (by omega)
    rw [HHS.out] at HF0
    refine HF0.mono ?_; rintro e w3 ⟨rfl, hb3⟩
    clear HF0
    have z3 := hb3.size
    have b13 : Below w1.heap.size w1 w3 := hb2.trans (hb3.mono z2)
    go_wp2_with (fail)
    refine (a2byte A2 n2 c2 0 l.length w3 (H2.out.below b13 (Nat.le_refl _)) (by omega) (by omega) (by omega)).mono ?_; rintro e w4 ⟨k, hk, rfl, rfl⟩
    have hkl : k < l.length := by omega
    obtain ⟨s, hs⟩ : ∃ s, l[k]? = some s := ⟨l[k], List.getElem?_eq_getElem hkl⟩
    have hsz : s.size ≤ 64 := by have := hls s (List.mem_of_getElem? hs); omega
    have pk : w3.cell? ⟨g1, k, none⟩ = some (.string s) := (b13.cell (p := ⟨g1, k, none⟩) hg1).trans (HO1.out.at_ rfl hs)
    obtain ⟨cc, wb, hcv, hbuf, hbb, hzb⟩ := buf_of_str w3 s
    have hbl := bts_len s
    have HS := Lib.hid hs
    clear hs hk
    have hs1' : 1 ≤ s.size := by have := hls s (List.mem_of_getElem? HS.out); omega
    obtain ⟨j, hj0, HJ⟩ := a2byte' A2 n2 c2 1 s.size wb ((H2.out.below b13 (Nat.le_refl _)).below hbb (Nat.le_refl _)) (by omega) (by omega) (by omega)
    obtain ⟨d0, hd0, HDD⟩ := a2byte' A2 n2 c2 2 255 wb ((H2.out.below b13 (Nat.le_refl _)).below hbb (Nat.le_refl _)) (by omega) (by omega) (by omega)
    have hjs : j < s.size := by omega
    obtain ⟨x, hx⟩ : ∃ x, (bts s)[j]? = some x := ⟨(bts s)[j]'(by omega), List.getElem?_eq_getElem (by omega)⟩
    have hxb := bts_lt x (List.mem_of_getElem? hx)
    obtain ⟨d, hd⟩ : ∃ d : Nat, 1 + (d0 : Int) = d := ⟨1 + d0, by omega⟩
    have hdb : d < 256 := by omega
    have hd1 : d ≠ 0 := by omega
    have hxor := xor_u8 x d hxb hdb
    have hww : IntKind.i64.wrap ((d : Nat) : Int) = d := by rw [IntKind.wrap_i64]; omega
    have hwu : IntKind.u8.wrap ((d : Nat) : Int) = d := by rw [IntKind.wrap_u8]; omega
    obtain ⟨c1, f1⟩ := hbuf j x hx
    have HBS := Lib.hid (hbuf.set (x ^^^ d) hx)
    have hgd : (bts s).getD j 0 = x := by rw [List.getD_eq_getElem?_getD, hx]; rfl
    have hu := HHU.out k j d s HS.out hjs hdb hd1
    rw [hgd] at hu
    generalize hbb2 : (bts s).set j (x ^^^ d) = bl at *
    have hbl2 : bl.length = s.size := by rw [← hbb2, List.length_set]; exact hbl
    clear hbuf hx hgd hd0 hj0 hbb2
    go_wp2_with (fail)
    have q1 := (show ({ wb with drawn := wb.drawn + 1 } : World).cell? _ = _ from c1)
    have q2 := (show ({ wb with drawn := wb.drawn + 1 } : World).frozen? _ = _ from f1)
    have HJ1 := HJ ({ wb with drawn := wb.drawn + 1 } : World) rfl
    have HD1 := HDD ({ wb with drawn := wb.drawn + 1 } : World) rfl
    go_still_tail 13, (by kernel_rfl)
    still_call HJ1
    repeat still_step
    still_call HD1
    repeat still_step
    refine wpStill_nil ?_
    go_upto_region 11 with (fail)
    have HB : Buf (wb.setCell ⟨w3.heap.size, j, none⟩ (.int .u8 ((x ^^^ d : Nat) : Int))).drew w3.heap.size bl := HBS.out.block rfl
    have hb5 : Below w3.heap.size w3 (wb.setCell ⟨w3.heap.size, j, none⟩ (.int .u8 ((x ^^^ d : Nat) : Int))).drew := (hbb.setCell (Nat.le_refl _) _).drew
    have hz5 : w3.heap.size < (wb.setCell ⟨w3.heap.size, j, none⟩ (.int .u8 ((x ^^^ d : Nat) : Int))).drew.heap.size := by
      have : (wb.setCell ⟨w3.heap.size, j, none⟩ (.int .u8 ((x ^^^ d : Nat) : Int))).drew.heap.size = wb.heap.size := by simp
      omega
    clear HBS hbb q1 q2 HJ1 HD1 HJ HDD c1 f1 hcv
    generalize (wb.setCell ⟨w3.heap.size, j, none⟩ (.int .u8 ((x ^^^ d : Nat) : Int))).drew = wr at *
    clear hxor hzb hww hwu
    have b15 : Below w1.heap.size w1 wr := b13.trans (hb5.mono (by omega))
    have O5 := Lib.hid (OwnL.below HO1.out b15)
    have hB5 : Below w.heap.size w wr := hb1.trans (b15.mono z1)
    have pk5 : wr.cell? ⟨g1, k, none⟩ = some (.string s) := (b15.cell (p := ⟨g1, k, none⟩) hg1).trans (HO1.out.at_ rfl HS.out)
    have hzr : w1.heap.size ≤ wr.heap.size := by omega
    have HBB := Lib.hid HB
    clear HB
    go_wp2_with (at_builtin; go_loud (refine wpList_appAll scell 1 scell_len _ rfl _ _ _ rfl wr.heap.size w.heap.size 9 9 i0 (.string .empty) 16 Try.underlying25 hi hz0 hz1 hz2 rfl (by omega) _ [] rfl (OwnL.of_empty wr (Nat.le_refl _)) _ l rfl (O5.out.alloc _) (by intro b u hu; simp [scell] at hu; subst hu; simp [Value.oneCell']) (by simp; omega) (by omega) (by simp) ?_; intro v' w6 how6 hg6; obtain ⟨Aq, cq, rfl, hAq⟩ := OwnL.shape how6; obtain ⟨g6, rfl, hg6a, hg6b⟩ := hAq.resolve_left HNE.out; have hg6' : (wr.alloc (.cells #[] 9)).grownBy w6 (some wr.heap.size) := hg6; clear hg6 hAq; have B6 : Below w.heap.size w w6 := (hB5.alloc (by omega) (.cells #[] 9)).grown hg6' (by first | omega | (simp; done) | (simp; omega)) (fun q hq => by (cases hq; omega)); have hblk : ∀ q, q < wr.heap.size → w6.heap[q]? = wr.heap[q]? := fun q hq => (hg6'.block q (by first | omega | (simp; done) | (simp; omega)) (by intro e; cases e; omega)).trans ((World.grownBy_alloc wr (.cells #[] 9) none).block q hq (by simp)); have hz6 : wr.heap.size ≤ w6.heap.size := (Nat.le_trans (by simp) hg6'.size); have pk6 : w6.cell? ⟨g1, k, none⟩ = some (.string s) := (World.cell?_of_block (a := ⟨g1, k, none⟩) (hblk g1 (by omega))).trans pk5; have hst := (HBB.out.block (hblk _ (by omega))).str (n := s.size) (c := cc) hbl2; rw [List.nil_append] at how6; have c6 : w6.cell? ⟨g6, k, none⟩ = some (.string s) := StringL.at_ how6 rfl HS.out; have f6 : w6.frozen? ⟨g6, k, none⟩ = false := OwnL.frozen how6))
    have O7 := StringL.set (k := k) how6 rfl (strN bl)
    have pk7 : (w6.setCell ⟨g6, k, none⟩ (.string (strN bl))).cell? ⟨g1, k, none⟩ = some (.string s) := (World.cell?_setCell_other _ _ _ _ (by intro e; injection e with e _ _; omega)).trans pk6
    have pm7 : (w6.setCell ⟨g6, k, none⟩ (.string (strN bl))).cell? ⟨g6, k, none⟩ = some (.string (strN bl)) := World.cell?_setCell_same _ _ _ c6
    have B7 : Below w.heap.size w (w6.setCell ⟨g6, k, none⟩ (.string (strN bl))) := B6.setCell (by show w.heap.size ≤ g6; omega) _
    clear how6 hblk
    have hls' : (l.set k (strN bl)).length = l.length := List.length_set
    have HF1 := fun (w' : World) (h : StrL w' (.slice (some ⟨g6, 0, none⟩) l.length cq) (l.set k (strN bl))) => HHC.out (l.set k (strN bl)) (.slice (some ⟨g6, 0, none⟩) l.length cq) w' h (by omega) (by omega) (by omega)
    rw [hu] at HF1
    have HO7 := strL_own O7
    have HF2 := HF1 _ HO7
    clear HF1 HO7 hu
    refine HF2.mono ?_; rintro e w8 ⟨rfl, hb8⟩
    go_wp2
    go_ret
    exact ⟨rfl, B7.trans (hb8.mono B7.size)⟩
end Go.Proofs.Ytkdadaocbfbndaa
