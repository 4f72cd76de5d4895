/- The first source of a sector, the implementation: the walk. The blocks of a track restored, the implementation: the walk. -/
import Derived.Test.YtfcdienphillnaaGreatLr21
import Derived.Test.YtfcdienphillnaaGreatLr30
import Derived.Test.YtfcdienphillnaaGreatLr31
import Derived.Test.YtfcdienphillnaaGreatLr27
namespace Go.Proofs.YtfcdienphillnaaGreat
set_option linter.unusedVariables false
set_option linter.unusedSimpArgs false
open Go.RowKit
theorem frozen_alloc (w : World) (cs : Array Value) (t : TypeId) (o : Nat) : (w.alloc (.cells cs t)).frozen? ⟨w.heap.size, o, none⟩ = false := by simp [go_sem]
theorem boxes2 (w : World) (E R : Array Value) (te tr : TypeId) :
    Row ((w.alloc (.cells E te)).alloc (.cells R tr)) w.heap.size E.toList ∧ Row ((w.alloc (.cells E te)).alloc (.cells R tr)) (w.heap.size + 1) R.toList ∧ (∀ o, ((w.alloc (.cells E te)).alloc (.cells R tr)).frozen? ⟨w.heap.size + 1, o, none⟩ = false) ∧ Below w.heap.size w ((w.alloc (.cells E te)).alloc (.cells R tr)) ∧ ((w.alloc (.cells E te)).alloc (.cells R tr)).heap.size = w.heap.size + 2 := by
  have s1 : (w.alloc (.cells E te)).heap.size = w.heap.size + 1 := by simp
  have b2 : Below (w.alloc (.cells E te)).heap.size (w.alloc (.cells E te)) ((w.alloc (.cells E te)).alloc (.cells R tr)) := Below.alloc (Below.refl _ _) (Nat.le_refl _) _
  have r2 := Row.alloc (w.alloc (.cells E te)) R tr
  rw [s1] at r2
  have f2 : ∀ o, ((w.alloc (.cells E te)).alloc (.cells R tr)).frozen? ⟨w.heap.size + 1, o, none⟩ = false := fun o => by rw [← s1]; exact frozen_alloc _ _ _ o
  exact ⟨(Row.alloc w E te).below b2 (by omega), r2, f2, ((Below.refl _ _).alloc (Nat.le_refl _) _).alloc (by omega) _, by simp⟩
theorem set3_row {w : World} {b : Nat} {a0 a1 a2 : Value} (h : Row w b [a0, a1, a2]) (v0 v1 v2 : Value) : Row (((w.setCell ⟨b, 0, none⟩ v0).setCell ⟨b, 1, none⟩ v1).setCell ⟨b, 2, none⟩ v2) b [v0, v1, v2] := by
  have h0 := h.set (o := 0) v0 (by simp)
  have h1 := h0.set (o := 1) v1 (by simp)
  have h2 := h1.set (o := 2) v2 (by simp)
  exact h2
theorem set3_below {w w6 : World} {b : Nat} (h : Below w.heap.size w w6) (hb : w.heap.size ≤ b) (v0 v1 v2 : Value) : Below w.heap.size w (((w6.setCell ⟨b, 0, none⟩ v0).setCell ⟨b, 1, none⟩ v1).setCell ⟨b, 2, none⟩ v2) := Below.setCell (Below.setCell (Below.setCell h hb _) hb _) hb _
theorem src_info : (Tryz.prog.info? 83).map (fun i => (i.zero, i.size, i.bytes)) = some (some (.agg #[.int .i64 0, .int .i64 0, .int .i64 0]), 3, 24) := by kernel_rfl
set_option maxRecDepth 20000 in
set_option maxHeartbeats 8000000 in
theorem fir_i (B : Nat) (e : Evd) (va vb vc vd : Value) (k : Nat) (w : World) (h : EvOwn B w e va vb vc vd) (hn : e.ds.length ≤ 5) (hk : ∀ d ∈ e.ds, k < d.secs.length) (hkc : k < e.cr.length) (hcr : e.cr.length ≤ 1048576) (m : Nat) (hm : ∀ d ∈ e.ds, ∀ s ∈ d.secs, s.data.size = m) (hm2 : m ≤ 4096) :
    Calls Tryz.prog 104 #[evV va vb vc vd, .int .i64 k] w fun r w' => r = .returned (.tuple #[.agg (firE e k).1.cells.toArray, .string (firE e k).2.1, .bool (firE e k).2.2]) ∧ Below w.heap.size w w' := by
  obtain ⟨g, c, u, hvb, hu, hc⟩ := crc_cell h hkc
  have H0 := Lib.hid h
  have HK := Lib.hid hk
  have HM := Lib.hid hm
  have hds := h.ds
  obtain ⟨A, n, B', kk, C, i, D, j, rfl, hvb', rfl, rfl⟩ := h.shape
  rw [hvb'] at hvb
  obtain rfl : B' = some ⟨g, 0, none⟩ := by injection hvb
  obtain rfl : kk = c := by injection hvb
  subst hvb'
  obtain ⟨RE, RR, FR, HBZ, zz⟩ := boxes2 w #[.slice A e.ds.length n, .slice (some ⟨g, 0, none⟩) e.cr.length kk, .slice C e.p.length i, .slice D e.q.length j] #[.int .i64 0, .int .i64 0, .int .i64 0] 39 83
  obtain ⟨A', c', e', hA⟩ := hds
  injection e' with e1 _ e2
  subst e1 e2
  clear h hk hm hu hc
  go_enter Tryz.func104, Tryz.ntmps104
  go_wp2_with (fail)
  generalize ((w.alloc (.cells #[.slice A e.ds.length n, .slice (some ⟨g, 0, none⟩) e.cr.length kk, .slice C e.p.length i, .slice D e.q.length j] 39)).alloc (.cells #[.int .i64 0, .int .i64 0, .int .i64 0] 83)) = w0 at *
  have hl5 : e.ds.length ≤ 1048576 := by omega
  go_loopw [17] (fun ii wr => ∃ q : Nat, q ≤ e.ds.length ∧ ii = .int .i64 q ∧ Below w0.heap.size w0 wr ∧ Hid (firD e.cr k 0 e.ds = firD e.cr k q (e.ds.drop q))) (fun ii _ => e.ds.length - (intOf ii).toNat)
  case atStart => exact ⟨0, by omega, rfl, Below.refl _ _, Lib.hid rfl⟩
  case round =>
    obtain ⟨q, hq, rfl, hb, HQ⟩ := hrel
    have zr := hb.size
    by_cases hlt : q < e.ds.length
    · obtain ⟨gd, rfl, _, hgd, hcd⟩ := hA.resolve_left (by intro h0; rw [h0] at hlt; simp at hlt)
      obtain ⟨d, hd⟩ : ∃ d, e.ds[q]? = some d := ⟨e.ds[q], List.getElem?_eq_getElem hlt⟩
      have hkd := HK.out d (List.mem_of_getElem? hd)
      obtain ⟨s, hs⟩ : ∃ s, d.secs[k]? = some s := ⟨d.secs[k], List.getElem?_eq_getElem hkd⟩
      obtain ⟨bv, o1, o2⟩ := hcd q d hd
      obtain ⟨A2, c2, rfl, hA2⟩ := OwnL.shape o1
      obtain ⟨g2, rfl, _, hg2⟩ := hA2.resolve_left (by intro h0; rw [h0] at hkd; simp at hkd)
      have hbw := HBZ.trans (hb.mono (by omega))
      have hg2r : g2 < wr.heap.size := by have := hbw.size; omega
      have p0 : wr.cell? ⟨gd, q * 5, none⟩ = some (.int .i64 d.cyl) := (hbw.cell (p := ⟨gd, q * 5 + 0, none⟩) hgd).trans (o2 0 _ rfl)
      have p1 := (hbw.cell (p := ⟨gd, q * 5 + 1, none⟩) hgd).trans (o2 1 _ rfl)
      have p2 := (hbw.cell (p := ⟨gd, q * 5 + 2, none⟩) hgd).trans (o2 2 _ rfl)
      have p3 := (hbw.cell (p := ⟨gd, q * 5 + 3, none⟩) hgd).trans (o2 3 _ rfl)
      have p4 := (hbw.cell (p := ⟨gd, q * 5 + 4, none⟩) hgd).trans (o2 4 _ rfl)
      have s0 : wr.cell? ⟨g2, k * 2, none⟩ = some (.string s.data) := (hbw.cell (p := ⟨g2, _, none⟩) hg2).trans (OwnL.cell Sec.len o1 hs (j := 0) rfl)
      have s1 : wr.cell? ⟨g2, k * 2 + 1, none⟩ = some (.int .i64 s.state) := (hbw.cell (p := ⟨g2, _, none⟩) hg2).trans (OwnL.cell Sec.len o1 hs (j := 1) rfl)
      have hbd : Below wr.heap.size wr ((wr.alloc (.cells #[.int .i64 d.cyl, .int .i64 d.heads, .int .i64 d.per, .int .i64 d.size, .slice (some ⟨g2, 0, none⟩) d.secs.length c2] 43)).alloc (.cells #[.string s.data, .int .i64 s.state] 70)) := (Below.alloc (Below.refl _ _) (Nat.le_refl _) _).alloc (by simp) _
      have zd : (((wr.alloc (.cells #[.int .i64 d.cyl, .int .i64 d.heads, .int .i64 d.per, .int .i64 d.size, .slice (some ⟨g2, 0, none⟩) d.secs.length c2] 43)).alloc (.cells #[.string s.data, .int .i64 s.state] 70))).heap.size = wr.heap.size + 2 := by simp
      have RS : Row ((wr.alloc (.cells #[.int .i64 d.cyl, .int .i64 d.heads, .int .i64 d.per, .int .i64 d.size, .slice (some ⟨g2, 0, none⟩) d.secs.length c2] 43)).alloc (.cells #[.string s.data, .int .i64 s.state] 70)) (wr.heap.size + 1) [.string s.data, .int .i64 s.state] := by
        have := Row.alloc (wr.alloc (.cells #[.int .i64 d.cyl, .int .i64 d.heads, .int .i64 d.per, .int .i64 d.size, .slice (some ⟨g2, 0, none⟩) d.secs.length c2] 43)) #[.string s.data, .int .i64 s.state] 70
        rw [show (wr.alloc (.cells #[.int .i64 d.cyl, .int .i64 d.heads, .int .i64 d.per, .int .i64 d.size, .slice (some ⟨g2, 0, none⟩) d.secs.length c2] 43)).heap.size = wr.heap.size + 1 by simp] at this
        exact this
      have hb5 := hb.trans (hbd.mono zr)
      have HFT := Lib.hid (fits_i B e _ _ _ _ k s.data ((wr.alloc (.cells #[.int .i64 d.cyl, .int .i64 d.heads, .int .i64 d.per, .int .i64 d.size, .slice (some ⟨g2, 0, none⟩) d.secs.length c2] 43)).alloc (.cells #[.string s.data, .int .i64 s.state] 70)) (H0.out.below (HBZ.trans (hb5.mono (by omega)))) hkc hcr (by rw [HM.out d (List.mem_of_getElem? hd) s (List.mem_of_getElem? hs)]; exact hm2))
      have HY := Lib.hid (fun hh => fid_yes hd hs HQ hh)
      have HN := Lib.hid (fun hh => fid_no hd hs HQ hh)
      have re := RE.below hb5 (by omega)
      have c0 := re 0 _ rfl
      have c1 := re 1 _ rfl
      have c2' := re 2 _ rfl
      have c3 := re 3 _ rfl
      have t0 : (((wr.alloc (.cells #[.int .i64 d.cyl, .int .i64 d.heads, .int .i64 d.per, .int .i64 d.size, .slice (some ⟨g2, 0, none⟩) d.secs.length c2] 43)).alloc (.cells #[.string s.data, .int .i64 s.state] 70))).cell? ⟨wr.heap.size + 1, 0, none⟩ = some (.string s.data) := RS 0 _ rfl
      have t1 : (((wr.alloc (.cells #[.int .i64 d.cyl, .int .i64 d.heads, .int .i64 d.per, .int .i64 d.size, .slice (some ⟨g2, 0, none⟩) d.secs.length c2] 43)).alloc (.cells #[.string s.data, .int .i64 s.state] 70))).cell? ⟨wr.heap.size + 1, 1, none⟩ = some (.int .i64 s.state) := RS 1 _ rfl
      clear hd hs o1 o2 hcd hA hA2 re
      cases hst : (s.state == 1)
      · have HNX := Lib.hid (HN.out (by rw [hst]; rfl))
        clear HFT HY HN
        go_wp2_with (fail)
        go_roundw
        case rel => exact ⟨q + 1, by omega, by go_num, hb5, HNX.out⟩
        case measure => simp [intOf]; omega
      · cases hft : fitB e.cr k s.data
        · have HNX := Lib.hid (HN.out (by rw [hst, hft]; rfl))
          rw [hft] at HFT
          clear HY HN
          go_wp2_with (fail)
          refine HFT.out.mono ?_; rintro r w6 ⟨rfl, hb6⟩
          go_wp2_with (fail)
          go_roundw
          case rel => exact ⟨q + 1, by omega, by go_num, hb5.trans (hb6.mono hb5.size), HNX.out⟩
          case measure => simp [intOf]; omega
        · have HF := Lib.hid (fir_dump (e := e) (HY.out (by rw [hst, hft]; rfl)))
          rw [hft] at HFT
          clear HY HN
          go_wp2_with (fail)
          generalize ((wr.alloc (.cells #[.int .i64 d.cyl, .int .i64 d.heads, .int .i64 d.per, .int .i64 d.size, .slice (some ⟨g2, 0, none⟩) d.secs.length c2] 43)).alloc (.cells #[.string s.data, .int .i64 s.state] 70)) = w5 at *
          refine HFT.out.mono ?_; rintro r w6 ⟨rfl, hb6⟩
          have t0' := (RS.below hb6 (by omega)) 0 _ rfl
          have hb06 := hb5.trans (hb6.mono hb5.size)
          have fz := frozen_below FR hb06 (by omega)
          clear t0 t1 c0 c1 c2' c3 p0 p1 p2 p3 p4 s0 s1 HFT
          go_wp2_with (fail)
          have hne1 : w.heap.size + 1 ≠ wr.heap.size + 1 := by omega
          have hne2 : wr.heap.size + 1 ≠ w.heap.size + 1 := by omega
          have hne3 : w.heap.size ≠ wr.heap.size := by omega
          have hne4 : wr.heap.size ≠ w.heap.size := by omega
          have r0 := (RR.below hb06 (by omega)) 0 _ rfl
          have r1 := (RR.below hb06 (by omega)) 1 _ rfl
          have r2 := (RR.below hb06 (by omega)) 2 _ rfl
          have fz0 := fz 0
          have fz1 := fz 1
          have fz2 := fz 2
          go_region
          have RR6 := set3_row (RR.below hb06 (by omega)) (.int .i64 1) (.int .i64 (k : Int)) (.int .i64 (q : Int))
          have BB6 := set3_below (HBZ.trans (hb06.mono (by omega))) (b := w.heap.size + 1) (by omega) (.int .i64 1) (.int .i64 (k : Int)) (.int .i64 (q : Int))
          generalize (((w6.setCell ⟨w.heap.size + 1, 0, none⟩ (.int .i64 1)).setCell ⟨w.heap.size + 1, 1, none⟩ (.int .i64 (k : Int))).setCell ⟨w.heap.size + 1, 2, none⟩ (.int .i64 (q : Int))) = w7 at *
          have v0 := RR6 0 _ rfl
          have v1 := RR6 1 _ rfl
          have v2 := RR6 2 _ rfl
          go_wp2_with (fail)
          exact bodyPost_ret (v := .tuple #[.agg #[.int .i64 1, .int .i64 (k : Int), .int .i64 (q : Int)], .string s.data, .bool true]) (by simp [results, Tryz.results104, go_sem, v0, v1, v2] <;> rfl) rfl ⟨by rw [HF.out]; rfl, BB6.drew⟩
    · have HNO := Lib.hid (fid_end (by omega) HQ)
      have hbw := HBZ.trans (hb.mono (by omega))
      have HR := Lib.hid (rd_i B e _ _ _ _ k wr (H0.out.below hbw) hl5 HK.out)
      have HRZ := Lib.hid (rd_size HM.out HK.out)
      have HVZ := Lib.hid (vote_size HRZ.out)
      have hrl := rdF_len k e.ds
      have HFV := Lib.hid (fun hh => fir_vote (e := e) (k := k) HNO.out hh)
      have HFS := Lib.hid (fun hh => fir_solve (e := e) (k := k) HNO.out hh)
      generalize rdF k e.ds = R at *
      have re := RE.below hb (by omega)
      have c0 := re 0 _ rfl
      have c1 := re 1 _ rfl
      have c2' := re 2 _ rfl
      have c3 := re 3 _ rfl
      clear re
      go_wp2_with (fail)
      refine HR.out.mono ?_; rintro r w5 ⟨v5, rfl, ho5, hb5⟩
      have hb05 := hb.trans (hb5.mono zr)
      have z5 := hb05.size
      have HV := Lib.hid (votd_i _ R _ w5 ho5 (by omega) m HRZ.out (by omega))
      obtain ⟨A5, k5, rfl, _⟩ := OwnL.shape ho5
      clear ho5 HR c0 c1 c2' c3
      have HVZ' : Hid ((voteE R).1.size ≤ 4096) := Lib.hid (Nat.le_trans HVZ.out hm2)
      generalize voteE R = V at *
      have HSV := Lib.hid (fun (w' : World) (hb' : Below w0.heap.size w0 w') => slv_i B e _ _ _ _ k w' (H0.out.below (HBZ.trans (hb'.mono (by omega)))) hl5 HK.out hkc hcr m HM.out hm2)
      have HFT := Lib.hid (fun (w' : World) (hb' : Below w0.heap.size w0 w') => fits_i B e _ _ _ _ k V.1 w' (H0.out.below (HBZ.trans (hb'.mono (by omega)))) hkc hcr HVZ'.out)
      have HREC : Hid (∀ w', Below w0.heap.size w0 w' → Row w' w.heap.size [.slice A e.ds.length n, .slice (some ⟨g, 0, none⟩) e.cr.length kk, .slice C e.p.length i, .slice D e.q.length j]) := Lib.hid fun w' hb' => RE.below hb' (by omega)
      have HRRC : Hid (∀ w', Below w0.heap.size w0 w' → Row w' (w.heap.size + 1) [.int .i64 0, .int .i64 0, .int .i64 0] ∧ (∀ o, w'.frozen? ⟨w.heap.size + 1, o, none⟩ = false) ∧ Below w.heap.size w w') := Lib.hid fun w' hb' => ⟨RR.below hb' (by omega), frozen_below FR hb' (by omega), HBZ.trans (hb'.mono (by omega))⟩
      clear RE RR FR
      have hcase : ((V.2 = true ∧ fitB e.cr k V.1 = true) ∨ (V.2 && fitB e.cr k V.1) = false) := by
        cases V.2 <;> cases fitB e.cr k V.1 <;> simp
      cases hv : V.2
      · have HF := Lib.hid (HFS.out (by rw [hv]; rfl))
        rw [hv] at HV
        go_wp2_with (fail)
        refine HV.out.mono ?_; rintro r w6 ⟨rfl, hb6⟩
        have hb06 := hb05.trans (hb6.mono hb05.size)
        have re := HREC.out w6 hb06
        have c0 := re 0 _ rfl
        have c1 := re 1 _ rfl
        have c2' := re 2 _ rfl
        have c3 := re 3 _ rfl
        have HS6 := Lib.hid (HSV.out w6 hb06)
        clear re HSV HFT
        generalize slvE e k = V2 at *
        go_wp2_with (fail)
        refine HS6.out.mono ?_; rintro r w7 ⟨rfl, hb7⟩
        have hb07 := hb06.trans (hb7.mono hb06.size)
        clear c0 c1 c2' c3
        obtain ⟨RR7, FR7, BW7⟩ := HRRC.out w7 hb07
        have r0 := RR7 0 _ rfl
        have r1 := RR7 1 _ rfl
        have r2 := RR7 2 _ rfl
        have fz0 := FR7 0
        have fz1 := FR7 1
        have fz2 := FR7 2
        have RR8 := set3_row RR7 (.int .i64 3) (.int .i64 (k : Int)) (.int .i64 0)
        have BB8 := set3_below BW7 (b := w.heap.size + 1) (by omega) (.int .i64 3) (.int .i64 (k : Int)) (.int .i64 0)
        have v0 := RR8 0 _ rfl
        have v1 := RR8 1 _ rfl
        have v2 := RR8 2 _ rfl
        go_wp2_with (fail)
        exact bodyPost_ret (v := .tuple #[.agg #[.int .i64 3, .int .i64 (k : Int), .int .i64 0], .string V2.1, .bool V2.2]) (by simp [results, Tryz.results104, go_sem, v0, v1, v2] <;> rfl) rfl ⟨by rw [HF.out]; rfl, BB8⟩
      · cases hf : fitB e.cr k V.1
        · have HF := Lib.hid (HFS.out (by rw [hv, hf]; rfl))
          rw [hv] at HV
          rw [hf] at HFT
          go_wp2_with (fail)
          refine HV.out.mono ?_; rintro r w6 ⟨rfl, hb6⟩
          have hb06 := hb05.trans (hb6.mono hb05.size)
          have re := HREC.out w6 hb06
          have c0 := re 0 _ rfl
          have c1 := re 1 _ rfl
          have c2' := re 2 _ rfl
          have c3 := re 3 _ rfl
          have HT6 := Lib.hid (HFT.out w6 hb06)
          clear re HFT
          go_wp2_with (fail)
          refine HT6.out.mono ?_; rintro r w8 ⟨rfl, hb8⟩
          have hb08 := hb06.trans (hb8.mono hb06.size)
          clear c0 c1 c2' c3
          have re := HREC.out w8 hb08
          have c0 := re 0 _ rfl
          have c1 := re 1 _ rfl
          have c2' := re 2 _ rfl
          have c3 := re 3 _ rfl
          have HS6 := Lib.hid (HSV.out w8 hb08)
          clear re HSV
          generalize slvE e k = V2 at *
          go_wp2_with (fail)
          refine HS6.out.mono ?_; rintro r w7 ⟨rfl, hb7⟩
          have hb07 := hb08.trans (hb7.mono hb08.size)
          clear c0 c1 c2' c3
          obtain ⟨RR7, FR7, BW7⟩ := HRRC.out w7 hb07
          have r0 := RR7 0 _ rfl
          have r1 := RR7 1 _ rfl
          have r2 := RR7 2 _ rfl
          have fz0 := FR7 0
          have fz1 := FR7 1
          have fz2 := FR7 2
          have RR8 := set3_row RR7 (.int .i64 3) (.int .i64 (k : Int)) (.int .i64 0)
          have BB8 := set3_below BW7 (b := w.heap.size + 1) (by omega) (.int .i64 3) (.int .i64 (k : Int)) (.int .i64 0)
          have v0 := RR8 0 _ rfl
          have v1 := RR8 1 _ rfl
          have v2 := RR8 2 _ rfl
          go_wp2_with (fail)
          exact bodyPost_ret (v := .tuple #[.agg #[.int .i64 3, .int .i64 (k : Int), .int .i64 0], .string V2.1, .bool V2.2]) (by simp [results, Tryz.results104, go_sem, v0, v1, v2] <;> rfl) rfl ⟨by rw [HF.out]; rfl, BB8⟩
        · have HF := Lib.hid (HFV.out (by rw [hv, hf]; rfl))
          rw [hv] at HV
          rw [hf] at HFT
          go_wp2_with (fail)
          refine HV.out.mono ?_; rintro r w6 ⟨rfl, hb6⟩
          have hb06 := hb05.trans (hb6.mono hb05.size)
          have re := HREC.out w6 hb06
          have c0 := re 0 _ rfl
          have c1 := re 1 _ rfl
          have c2' := re 2 _ rfl
          have c3 := re 3 _ rfl
          have HT6 := Lib.hid (HFT.out w6 hb06)
          clear re HFT
          go_wp2_with (fail)
          refine HT6.out.mono ?_; rintro r w7 ⟨rfl, hb7⟩
          have hb07 := hb06.trans (hb7.mono hb06.size)
          clear c0 c1 c2' c3
          obtain ⟨RR7, FR7, BW7⟩ := HRRC.out w7 hb07
          have r0 := RR7 0 _ rfl
          have r1 := RR7 1 _ rfl
          have r2 := RR7 2 _ rfl
          have fz0 := FR7 0
          have fz1 := FR7 1
          have fz2 := FR7 2
          have RR8 := set3_row RR7 (.int .i64 2) (.int .i64 (k : Int)) (.int .i64 0)
          have BB8 := set3_below BW7 (b := w.heap.size + 1) (by omega) (.int .i64 2) (.int .i64 (k : Int)) (.int .i64 0)
          have v0 := RR8 0 _ rfl
          have v1 := RR8 1 _ rfl
          have v2 := RR8 2 _ rfl
          go_wp2_with (fail)
          exact bodyPost_ret (v := .tuple #[.agg #[.int .i64 2, .int .i64 (k : Int), .int .i64 0], .string V.1, .bool true]) (by simp [results, Tryz.results104, go_sem, v0, v1, v2] <;> rfl) rfl ⟨by rw [HF.out]; rfl, BB8⟩
end Go.Proofs.YtfcdienphillnaaGreat
namespace Go.Proofs.YtfcdienphillnaaGreat
set_option linter.unusedVariables false
set_option linter.unusedSimpArgs false
open Go.RowKit
set_option maxRecDepth 20000 in
set_option maxHeartbeats 8000000 in
theorem rest_i (B Bd : Nat) (e : Evd) (va vb vc vd : Value) (d : Dsc) (x : Value) (L : List Int) (vl : Value) (t P o : Nat) (w : World) (h : EvOwn B w e va vb vc vd) (hd : SecOwn Bd w x d.secs) (hl : IntsAt w vl L) (hLn : L.length ≤ 1048576)
    (hP : d.per = P) (hP1 : 1 ≤ P) (hPm : P ≤ 1048576) (ho : t * P = o) (ht : o + P ≤ d.secs.length) (hn : d.secs.length ≤ 1048576) (htm : t ≤ 1048576)
    (pt qt : ByteArray) (hpt : e.p[t]? = some pt) (hqt : e.q[t]? = some qt) (hps : pt.size ≤ 1048576) (hqs : qt.size ≤ 1048576) :
    Calls Tryz.prog 130 #[evV va vb vc vd, dscV d x, .int .i64 t, vl] w fun r w' => ∃ v', r = .returned (.tuple #[v', .bool (rsB pt qt (r2E (blkF d o P) L pt qt))]) ∧ (rsB pt qt (r2E (blkF d o P) L pt qt) = true → StringL w.heap.size w' v' (r2E (blkF d o P) L pt qt).1) ∧ Below w.heap.size w w' := by
  obtain ⟨s0, si, sz0, sz1, sz2⟩ := info_parts scell_info
  obtain ⟨A, n, B', kk, C, i, D, j, rfl, rfl, rfl, rfl⟩ := h.shape
  obtain ⟨X, c, rfl, hX⟩ := OwnL.shape hd
  obtain ⟨g, rfl, _, hg⟩ := hX.resolve_left (by intro e; rw [e] at ht; simp at ht; omega)
  have hcap := own_cap hd
  obtain ⟨Cp, ip, hCp, hCA⟩ := OwnL.shape h.p
  injection hCp with e1 _ e2
  subst e1 e2
  obtain ⟨gp, rfl, _, hgp⟩ := hCA.resolve_left (by intro e; rw [e] at hpt; cases hpt)
  obtain ⟨Dq, jq, hDq, hDA⟩ := OwnL.shape h.q
  injection hDq with e1 _ e2
  subst e1 e2
  obtain ⟨gq, rfl, _, hgq⟩ := hDA.resolve_left (by intro e; rw [e] at hqt; cases hqt)
  have cp := StringL.at_ h.p rfl hpt
  have cq := StringL.at_ h.q rfl hqt
  have htp : t < e.p.length := (List.getElem?_eq_some_iff.1 hpt).1
  have htq : t < e.q.length := (List.getElem?_eq_some_iff.1 hqt).1
  have h3 : (t : Int) * (P : Int) = (o : Int) := by rw [← ho]; rfl
  have HSC := Lib.hid (fun (k : Nat) (s : Sec) (hk : d.secs[k]? = some s) => And.intro (OwnL.cell Sec.len hd hk (j := 0) rfl) (OwnL.cell Sec.len hd hk (j := 1) rfl))
  have HTR := Lib.hid (fun (w' : World) => track_i d g c t P o w' ho ht hn hcap htm hP1)
  have HIL := Lib.hid (show ∀ w', Below w.heap.size w w' → IntsAt w' vl L from fun w' hb => by
    obtain ⟨A', c', rfl, hA'⟩ := hl
    refine ⟨_, _, rfl, hA'.imp id ?_⟩
    rintro ⟨g, rfl, hg, hc⟩
    exact ⟨g, rfl, Nat.lt_of_lt_of_le hg hb.size, fun k x hk => (hb.cell (p := ⟨g, k, none⟩) hg).trans (hc k x hk)⟩)
  obtain ⟨Al, cl, rfl, _⟩ := hl
  obtain ⟨RE, RD, _, HBZ, zz⟩ := boxes2 w #[.slice A e.ds.length n, .slice B' e.cr.length kk, .slice (some ⟨gp, 0, none⟩) e.p.length i, .slice (some ⟨gq, 0, none⟩) e.q.length j] #[.int .i64 d.cyl, .int .i64 d.heads, .int .i64 (P : Int), .int .i64 d.size, .slice (some ⟨g, 0, none⟩) d.secs.length c] 39 43
  have HCL : Hid (∀ w', Below (((w.alloc (.cells #[.slice A e.ds.length n, .slice B' e.cr.length kk, .slice (some ⟨gp, 0, none⟩) e.p.length i, .slice (some ⟨gq, 0, none⟩) e.q.length j] 39)).alloc (.cells #[.int .i64 d.cyl, .int .i64 d.heads, .int .i64 (P : Int), .int .i64 d.size, .slice (some ⟨g, 0, none⟩) d.secs.length c] 43))).heap.size ((w.alloc (.cells #[.slice A e.ds.length n, .slice B' e.cr.length kk, .slice (some ⟨gp, 0, none⟩) e.p.length i, .slice (some ⟨gq, 0, none⟩) e.q.length j] 39)).alloc (.cells #[.int .i64 d.cyl, .int .i64 d.heads, .int .i64 (P : Int), .int .i64 d.size, .slice (some ⟨g, 0, none⟩) d.secs.length c] 43)) w' → Row w' (w.heap.size + 1) [.int .i64 d.cyl, .int .i64 d.heads, .int .i64 (P : Int), .int .i64 d.size, .slice (some ⟨g, 0, none⟩) d.secs.length c] ∧ (w'.cell? ⟨w.heap.size, 2, none⟩ = some (.slice (some ⟨gp, 0, none⟩) e.p.length i) ∧ w'.cell? ⟨w.heap.size, 3, none⟩ = some (.slice (some ⟨gq, 0, none⟩) e.q.length j) ∧ w'.cell? ⟨gp, t, none⟩ = some (.string pt) ∧ w'.cell? ⟨gq, t, none⟩ = some (.string qt)) ∧ Below w.heap.size w w') := Lib.hid fun w' hb => by
    have hbw := HBZ.trans (hb.mono (by rw [zz]; omega))
    have re := RE.below hb (by rw [zz]; omega)
    exact ⟨RD.below hb (by rw [zz]; omega), ⟨re 2 _ rfl, re 3 _ rfl, (hbw.cell (p := ⟨gp, t, none⟩) hgp).trans cp, (hbw.cell (p := ⟨gq, t, none⟩) hgq).trans cq⟩, hbw⟩
  have hdv : dscV d (.slice (some ⟨g, 0, none⟩) d.secs.length c) = .agg #[.int .i64 d.cyl, .int .i64 d.heads, .int .i64 (P : Int), .int .i64 d.size, .slice (some ⟨g, 0, none⟩) d.secs.length c] := by rw [← hP]
  rw [hdv]
  clear hdv hP
  by_cases hboth : pt.size = 0 ∧ qt.size = 0
  · have HF := Lib.hid (rsB_none (G := r2E (blkF d o P) L pt qt) hboth.1 hboth.2)
    have h1 := emp_nil hboth.1
    have h2 := emp_nil hboth.2
    have h1' : pt.toList.isEmpty = true := by rw [h1]; rfl
    have h2' : qt.toList.isEmpty = true := by rw [h2]; rfl
    obtain ⟨_, ⟨s2, s3, s4, s5⟩, BW⟩ := HCL.out _ (Below.refl _ _)
    clear h hd hX hCA hDA hpt hqt ho hboth RE RD
    go_enter Tryz.func130, Tryz.ntmps130
    go_wp2_with (fail)
    exact bodyPost_ret (v := .tuple #[.slice none 0 0, .bool false]) (by simp [results, Tryz.results130, go_sem] <;> rfl) rfl ⟨.slice none 0 0, by rw [HF.out], (fun hh => by rw [HF.out] at hh; cases hh), BW⟩
  · have HF : Hid (rsB pt qt (r2E (blkF d o P) L pt qt) = ((r2E (blkF d o P) L pt qt).2 == 0)) := Lib.hid (by
      by_cases e : pt.size = 0
      · exact rsB_q (fun e2 => hboth ⟨e, e2⟩)
      · exact rsB_p e)
    have HE : (pt.toList = [] ∧ pt.toList.isEmpty = true ∧ ¬ qt.toList = [] ∧ qt.toList.isEmpty = false) ∨ (¬ pt.toList = [] ∧ pt.toList.isEmpty = false) := by
      by_cases e : pt.size = 0
      · have h1 := emp_nil e
        have h2 := emp_ne (s := qt) (fun e2 => hboth ⟨e, e2⟩)
        exact .inl ⟨h1, by rw [h1]; rfl, h2, by simpa using h2⟩
      · have h1 := emp_ne e
        exact .inr ⟨h1, by simpa using h1⟩
    obtain ⟨rd, ⟨s2, s3, s4, s5⟩, BW⟩ := HCL.out _ (Below.refl _ _)
    have ld0 := rd 0 _ rfl
    have ld1 := rd 1 _ rfl
    have ld2 := rd 2 _ rfl
    have ld3 := rd 3 _ rfl
    have ld4 := rd 4 _ rfl
    clear h hd hX hCA hDA hpt hqt ho hboth RE RD rd
    go_enter Tryz.func130, Tryz.ntmps130
    rcases HE with ⟨h1, h1', h2, h2'⟩ | ⟨h1, h1'⟩
    all_goals go_wp2_with (fail)
    all_goals
      generalize ((w.alloc (.cells #[.slice A e.ds.length n, .slice B' e.cr.length kk, .slice (some ⟨gp, 0, none⟩) e.p.length i, .slice (some ⟨gq, 0, none⟩) e.q.length j] 39)).alloc (.cells #[.int .i64 d.cyl, .int .i64 d.heads, .int .i64 (P : Int), .int .i64 d.size, .slice (some ⟨g, 0, none⟩) d.secs.length c] 43)) = w0 at *
      refine (HTR.out w0).mono ?_; rintro r w4 ⟨rfl, hb4⟩
      clear ld0 ld1 ld2 ld3 ld4 s2 s3 s4 s5 HTR
      go_wp2_with (fail)
      go_loopw [33, 10] (fun ii out wx => ∃ (q : Nat) (acc : List ByteArray), q ≤ P ∧ ii = .int .i64 q ∧ acc.length = q ∧ Below w0.heap.size w0 wx ∧ StringL w0.heap.size wx out acc ∧ Hid (acc = blkF d o q)) (fun ii _ _ => P - (intOf ii).toNat)
      case atStart => exact ⟨0, [], by omega, rfl, rfl, hb4, OwnL.of_nil, Lib.hid (by unfold blkF; simp)⟩
      case round =>
        obtain ⟨q, bl, hq, rfl, hql, hbx, how, HBL⟩ := hrel
        have zx := hbx.size
        obtain ⟨_, ⟨s2, s3, s4, s5⟩, HBW⟩ := HCL.out wr hbx
        by_cases hltq : q < P
        · obtain ⟨s, hs⟩ : ∃ s, d.secs[o + q]? = some s := ⟨d.secs[o + q]'(by omega), List.getElem?_eq_getElem (by omega)⟩
          obtain ⟨c0, c1⟩ := HSC.out (o + q) s hs
          have f0 := (HBW.cell (p := ⟨g, _, none⟩) hg).trans c0
          have f1 := (HBW.cell (p := ⟨g, _, none⟩) hg).trans c1
          rw [show (o + q) * 2 + 0 = o * 2 + q * 2 by omega] at f0
          rw [show (o + q) * 2 + 1 = o * 2 + q * 2 + 1 by omega] at f1
          have HN := blk_next hs HBL
          have HO2 : Hid (StringL w0.heap.size (wr.alloc (.cells #[.string s.data, .int .i64 s.state] 70)) _ bl) := Lib.hid (how.alloc _)
          have HBB : Below w0.heap.size w0 (wr.alloc (.cells #[.string s.data, .int .i64 s.state] 70)) := hbx.alloc zx _
          clear how hs c0 c1 s2 s3 s4 s5
          go_wp2_with (at_builtin; refine stopQ ?_)
          intro _
          refine wpList_app1 scell 1 scell_len _ rfl _ _ _ rfl w0.heap.size 9 s0 (.string .empty) 16 Tryz.underlying24 si sz0 sz1 sz2 rfl (by decide) _ bl rfl (HO2.out.alloc _) _ 1 s.data rfl ?_ (by simp [scell, Value.oneCell']) (by omega) (by omega) (by simp; omega) ?_
          · intro j u hu; cases j with | zero => (simp [scell] at hu; subst hu; first | exact cell_alloc2 _ _ _ _ | simp) | succ j => simp [scell] at hu
          intro v' w5 how2 hg2
          go_wp2_with (fail)
          go_roundw
          case rel => exact ⟨q + 1, bl ++ [s.data], by omega, by go_num, by simp; omega, own_grown_below (HO2.out.alloc _) (HBB.alloc (by simp; omega) _) hg2 (Nat.le_refl _) (by simp; omega), how2, HN⟩
          case measure => simp [intOf]; omega
        · obtain rfl : P = q := by omega
          have HO := Lib.hid how
          have HBE := Lib.hid HBL.out.symm
          have HK6 : Hid (∀ w', Below wr.drew.heap.size wr.drew w' → w'.cell? ⟨w.heap.size, 2, none⟩ = some (.slice (some ⟨gp, 0, none⟩) e.p.length i) ∧ w'.cell? ⟨w.heap.size, 3, none⟩ = some (.slice (some ⟨gq, 0, none⟩) e.q.length j) ∧ w'.cell? ⟨gp, t, none⟩ = some (.string pt) ∧ w'.cell? ⟨gq, t, none⟩ = some (.string qt)) := Lib.hid fun w' hb => (HCL.out w' ((hbx.drew).trans (hb.mono zx))).2.1
          have HEQ : r2E (blkF d o P) L pt qt = r2E bl L pt qt := by rw [HBE.out]
          rw [HEQ] at HF
          have HRT := Lib.hid (r2_i _ bl L pt qt _ _ wr.drew (OwnL.below HO.out (Below.refl _ _).drew) (HIL.out wr.drew HBW.drew) (by omega) (by omega) hps hqs)
          have HLN := Lib.hid (fun (hh : (r2E bl L pt qt).2 = 0) => r2_out hh)
          obtain ⟨A8, k8, rfl, hA8⟩ := OwnL.shape how
          rw [hql] at HRT
          generalize r2E bl L pt qt = G at *
          have HEQ := Lib.hid HEQ
          clear how hA8 HBL HBE HIL
          go_wp2_with (fail)
          go_region_held3 (fun w' => w'.cell? ⟨w.heap.size, 2, none⟩ = some (.slice (some ⟨gp, 0, none⟩) e.p.length i) ∧ w'.cell? ⟨w.heap.size, 3, none⟩ = some (.slice (some ⟨gq, 0, none⟩) e.q.length j) ∧ w'.cell? ⟨gp, t, none⟩ = some (.string pt) ∧ w'.cell? ⟨gq, t, none⟩ = some (.string qt))
            (first | exact ⟨s2, s3, s4, s5⟩ | exact HK6.out _ hb6)
            (first | (go_at_call 127; refine HRT.out.mono ?_; rintro r w6 ⟨v6, rfl, ho6, hb6⟩; have HB6 := Lib.hid ((Below.refl wr.heap.size wr).drew.trans hb6); have HO6 := Lib.hid ho6.1))
          clear ho6 hb6
          clear s2 s3 s4 s5 HRT HK6
          have z6 := HB6.out.size
          have hb7 := HBW.trans (HB6.out.mono HBW.size)
          obtain ⟨A6, k6, rfl, _⟩ := OwnL.shape HO6.out
          cases hcd : (G.2 == 0)
          · rw [hcd] at HF
            go_wp2_with (fail)
            exact bodyPost_ret (v := .tuple #[.slice A6 G.1.length k6, .bool false]) (by simp [results, Tryz.results130, go_sem] <;> rfl) rfl ⟨.slice A6 G.1.length k6, by rw [HEQ.out, HF.out], (fun hh => by rw [HEQ.out, HF.out] at hh; cases hh), hb7⟩
          · rw [hcd] at HF
            go_wp2_with (fail)
            exact bodyPost_ret (v := .tuple #[.slice A6 G.1.length k6, .bool true]) (by simp [results, Tryz.results130, go_sem] <;> rfl) rfl ⟨.slice A6 G.1.length k6, by rw [HEQ.out, HF.out], (fun _ => by rw [HEQ.out]; exact OwnL.base HO6.out (by show w.heap.size ≤ wr.heap.size; have := HBW.size; omega)), hb7⟩
end Go.Proofs.YtfcdienphillnaaGreat
