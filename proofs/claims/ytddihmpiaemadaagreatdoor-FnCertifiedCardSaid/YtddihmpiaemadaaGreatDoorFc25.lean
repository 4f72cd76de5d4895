/- The first source of a sector, the implementation: the walk. A disc without contents, the implementation: the walk. Parity of a certificate: the walks of the reference. -/
import Derived.Test.YtddihmpiaemadaaGreatDoorFc18
import Derived.Test.YtddihmpiaemadaaGreatDoorFc21
import Derived.Test.YtddihmpiaemadaaGreatDoorFc24
import Derived.Test.YtddihmpiaemadaaGreatDoorFc03
import Derived.Deep.RegionHeld3
import Derived.Deep.AppendLies
namespace Go.Proofs.YtddihmpiaemadaaGreatDoor
set_option linter.unusedVariables false
set_option linter.unusedSimpArgs false
open Go.RowKit
theorem frozen_alloc (w : World) (cs : Array Value) (t : TypeId) (o : Nat) : (w.alloc (.cells cs t)).frozen? ⟨w.heap.size, o, none⟩ = false := by simp [go_sem]
theorem boxes2 (w : World) (E R : Array Value) (te tr : TypeId) :
    Row ((w.alloc (.cells E te)).alloc (.cells R tr)) w.heap.size E.toList ∧ Row ((w.alloc (.cells E te)).alloc (.cells R tr)) (w.heap.size + 1) R.toList ∧ (∀ o, ((w.alloc (.cells E te)).alloc (.cells R tr)).frozen? ⟨w.heap.size + 1, o, none⟩ = false) ∧ Below w.heap.size w ((w.alloc (.cells E te)).alloc (.cells R tr)) ∧ ((w.alloc (.cells E te)).alloc (.cells R tr)).heap.size = w.heap.size + 2 := by
  have s1 : (w.alloc (.cells E te)).heap.size = w.heap.size + 1 := by simp
  have b2 : Below (w.alloc (.cells E te)).heap.size (w.alloc (.cells E te)) ((w.alloc (.cells E te)).alloc (.cells R tr)) := Below.alloc (Below.refl _ _) (Nat.le_refl _) _
  have r2 := Row.alloc (w.alloc (.cells E te)) R tr
  rw [s1] at r2
  have f2 : ∀ o, ((w.alloc (.cells E te)).alloc (.cells R tr)).frozen? ⟨w.heap.size + 1, o, none⟩ = false := fun o => by rw [← s1]; exact frozen_alloc _ _ _ o
  exact ⟨(Row.alloc w E te).below b2 (by omega), r2, f2, ((Below.refl _ _).alloc (Nat.le_refl _) _).alloc (by omega) _, by simp⟩
theorem set3_row {w : World} {b : Nat} {a0 a1 a2 : Value} (h : Row w b [a0, a1, a2]) (v0 v1 v2 : Value) : Row (((w.setCell ⟨b, 0, none⟩ v0).setCell ⟨b, 1, none⟩ v1).setCell ⟨b, 2, none⟩ v2) b [v0, v1, v2] := by
  have h0 := h.set (o := 0) v0 (by simp)
  have h1 := h0.set (o := 1) v1 (by simp)
  have h2 := h1.set (o := 2) v2 (by simp)
  exact h2
theorem set3_below {w w6 : World} {b : Nat} (h : Below w.heap.size w w6) (hb : w.heap.size ≤ b) (v0 v1 v2 : Value) : Below w.heap.size w (((w6.setCell ⟨b, 0, none⟩ v0).setCell ⟨b, 1, none⟩ v1).setCell ⟨b, 2, none⟩ v2) := Below.setCell (Below.setCell (Below.setCell h hb _) hb _) hb _
theorem src_info : (Tryz.prog.info? 49).map (fun i => (i.zero, i.size, i.bytes)) = some (some (.agg #[.int .i64 0, .int .i64 0, .int .i64 0]), 3, 24) := by kernel_rfl
set_option maxRecDepth 20000 in
set_option maxHeartbeats 8000000 in
theorem fir_i (B : Nat) (e : Evd) (va vb vc vd : Value) (k : Nat) (w : World) (h : EvOwn B w e va vb vc vd) (hn : e.ds.length ≤ 5) (hk : ∀ d ∈ e.ds, k < d.secs.length) (hkc : k < e.cr.length) (hcr : e.cr.length ≤ 1048576) (m : Nat) (hm : ∀ d ∈ e.ds, ∀ s ∈ d.secs, s.data.size = m) (hm2 : m ≤ 4096) :
    Calls Tryz.prog 46 #[evV va vb vc vd, .int .i64 k] w fun r w' => r = .returned (.tuple #[.agg (firE e k).1.cells.toArray, .string (firE e k).2.1, .bool (firE e k).2.2]) ∧ Below w.heap.size w w' := by
  obtain ⟨g, c, u, hvb, hu, hc⟩ := crc_cell h hkc
  have H0 := Lib.hid h
  have HK := Lib.hid hk
  have HM := Lib.hid hm
  have hds := h.ds
  obtain ⟨A, n, B', kk, C, i, D, j, rfl, hvb', rfl, rfl⟩ := h.shape
  rw [hvb'] at hvb
  obtain rfl : B' = some ⟨g, 0, none⟩ := by injection hvb
  obtain rfl : kk = c := by injection hvb
  subst hvb'
  obtain ⟨RE, RR, FR, HBZ, zz⟩ := boxes2 w #[.slice A e.ds.length n, .slice (some ⟨g, 0, none⟩) e.cr.length kk, .slice C e.p.length i, .slice D e.q.length j] #[.int .i64 0, .int .i64 0, .int .i64 0] 28 49
  obtain ⟨A', c', e', hA⟩ := hds
  injection e' with e1 _ e2
  subst e1 e2
  clear h hk hm hu hc
  go_enter Tryz.func46, Tryz.ntmps46
  go_wp2_with (fail)
  generalize ((w.alloc (.cells #[.slice A e.ds.length n, .slice (some ⟨g, 0, none⟩) e.cr.length kk, .slice C e.p.length i, .slice D e.q.length j] 28)).alloc (.cells #[.int .i64 0, .int .i64 0, .int .i64 0] 49)) = w0 at *
  have hl5 : e.ds.length ≤ 1048576 := by omega
  go_loopw [17] (fun ii wr => ∃ q : Nat, q ≤ e.ds.length ∧ ii = .int .i64 q ∧ Below w0.heap.size w0 wr ∧ Hid (firD e.cr k 0 e.ds = firD e.cr k q (e.ds.drop q))) (fun ii _ => e.ds.length - (intOf ii).toNat)
  case atStart => exact ⟨0, by omega, rfl, Below.refl _ _, Lib.hid rfl⟩
  case round =>
    obtain ⟨q, hq, rfl, hb, HQ⟩ := hrel
    have zr := hb.size
    by_cases hlt : q < e.ds.length
    · obtain ⟨gd, rfl, _, hgd, hcd⟩ := hA.resolve_left (by intro h0; rw [h0] at hlt; simp at hlt)
      obtain ⟨d, hd⟩ : ∃ d, e.ds[q]? = some d := ⟨e.ds[q], List.getElem?_eq_getElem hlt⟩
      have hkd := HK.out d (List.mem_of_getElem? hd)
      obtain ⟨s, hs⟩ : ∃ s, d.secs[k]? = some s := ⟨d.secs[k], List.getElem?_eq_getElem hkd⟩
      obtain ⟨bv, o1, o2⟩ := hcd q d hd
      obtain ⟨A2, c2, rfl, hA2⟩ := OwnL.shape o1
      obtain ⟨g2, rfl, _, hg2⟩ := hA2.resolve_left (by intro h0; rw [h0] at hkd; simp at hkd)
      have hbw := HBZ.trans (hb.mono (by omega))
      have hg2r : g2 < wr.heap.size := by have := hbw.size; omega
      have p0 : wr.cell? ⟨gd, q * 5, none⟩ = some (.int .i64 d.cyl) := (hbw.cell (p := ⟨gd, q * 5 + 0, none⟩) hgd).trans (o2 0 _ rfl)
      have p1 := (hbw.cell (p := ⟨gd, q * 5 + 1, none⟩) hgd).trans (o2 1 _ rfl)
      have p2 := (hbw.cell (p := ⟨gd, q * 5 + 2, none⟩) hgd).trans (o2 2 _ rfl)
      have p3 := (hbw.cell (p := ⟨gd, q * 5 + 3, none⟩) hgd).trans (o2 3 _ rfl)
      have p4 := (hbw.cell (p := ⟨gd, q * 5 + 4, none⟩) hgd).trans (o2 4 _ rfl)
      have s0 : wr.cell? ⟨g2, k * 2, none⟩ = some (.string s.data) := (hbw.cell (p := ⟨g2, _, none⟩) hg2).trans (OwnL.cell Sec.len o1 hs (j := 0) rfl)
      have s1 : wr.cell? ⟨g2, k * 2 + 1, none⟩ = some (.int .i64 s.state) := (hbw.cell (p := ⟨g2, _, none⟩) hg2).trans (OwnL.cell Sec.len o1 hs (j := 1) rfl)
      have hbd : Below wr.heap.size wr ((wr.alloc (.cells #[.int .i64 d.cyl, .int .i64 d.heads, .int .i64 d.per, .int .i64 d.size, .slice (some ⟨g2, 0, none⟩) d.secs.length c2] 32)).alloc (.cells #[.string s.data, .int .i64 s.state] 56)) := (Below.alloc (Below.refl _ _) (Nat.le_refl _) _).alloc (by simp) _
      have zd : (((wr.alloc (.cells #[.int .i64 d.cyl, .int .i64 d.heads, .int .i64 d.per, .int .i64 d.size, .slice (some ⟨g2, 0, none⟩) d.secs.length c2] 32)).alloc (.cells #[.string s.data, .int .i64 s.state] 56))).heap.size = wr.heap.size + 2 := by simp
      have RS : Row ((wr.alloc (.cells #[.int .i64 d.cyl, .int .i64 d.heads, .int .i64 d.per, .int .i64 d.size, .slice (some ⟨g2, 0, none⟩) d.secs.length c2] 32)).alloc (.cells #[.string s.data, .int .i64 s.state] 56)) (wr.heap.size + 1) [.string s.data, .int .i64 s.state] := by
        have := Row.alloc (wr.alloc (.cells #[.int .i64 d.cyl, .int .i64 d.heads, .int .i64 d.per, .int .i64 d.size, .slice (some ⟨g2, 0, none⟩) d.secs.length c2] 32)) #[.string s.data, .int .i64 s.state] 56
        rw [show (wr.alloc (.cells #[.int .i64 d.cyl, .int .i64 d.heads, .int .i64 d.per, .int .i64 d.size, .slice (some ⟨g2, 0, none⟩) d.secs.length c2] 32)).heap.size = wr.heap.size + 1 by simp] at this
        exact this
      have hb5 := hb.trans (hbd.mono zr)
      have HFT := Lib.hid (fits_i B e _ _ _ _ k s.data ((wr.alloc (.cells #[.int .i64 d.cyl, .int .i64 d.heads, .int .i64 d.per, .int .i64 d.size, .slice (some ⟨g2, 0, none⟩) d.secs.length c2] 32)).alloc (.cells #[.string s.data, .int .i64 s.state] 56)) (H0.out.below (HBZ.trans (hb5.mono (by omega)))) hkc hcr (by rw [HM.out d (List.mem_of_getElem? hd) s (List.mem_of_getElem? hs)]; exact hm2))
      have HY := Lib.hid (fun hh => fid_yes hd hs HQ hh)
      have HN := Lib.hid (fun hh => fid_no hd hs HQ hh)
      have re := RE.below hb5 (by omega)
      have c0 := re 0 _ rfl
      have c1 := re 1 _ rfl
      have c2' := re 2 _ rfl
      have c3 := re 3 _ rfl
      have t0 : (((wr.alloc (.cells #[.int .i64 d.cyl, .int .i64 d.heads, .int .i64 d.per, .int .i64 d.size, .slice (some ⟨g2, 0, none⟩) d.secs.length c2] 32)).alloc (.cells #[.string s.data, .int .i64 s.state] 56))).cell? ⟨wr.heap.size + 1, 0, none⟩ = some (.string s.data) := RS 0 _ rfl
      have t1 : (((wr.alloc (.cells #[.int .i64 d.cyl, .int .i64 d.heads, .int .i64 d.per, .int .i64 d.size, .slice (some ⟨g2, 0, none⟩) d.secs.length c2] 32)).alloc (.cells #[.string s.data, .int .i64 s.state] 56))).cell? ⟨wr.heap.size + 1, 1, none⟩ = some (.int .i64 s.state) := RS 1 _ rfl
      clear hd hs o1 o2 hcd hA hA2 re
      cases hst : (s.state == 1)
      · have HNX := Lib.hid (HN.out (by rw [hst]; rfl))
        clear HFT HY HN
        go_wp2_with (fail)
        go_roundw
        case rel => exact ⟨q + 1, by omega, by go_num, hb5, HNX.out⟩
        case measure => simp [intOf]; omega
      · cases hft : fitB e.cr k s.data
        · have HNX := Lib.hid (HN.out (by rw [hst, hft]; rfl))
          rw [hft] at HFT
          clear HY HN
          go_wp2_with (fail)
          refine HFT.out.mono ?_; rintro r w6 ⟨rfl, hb6⟩
          go_wp2_with (fail)
          go_roundw
          case rel => exact ⟨q + 1, by omega, by go_num, hb5.trans (hb6.mono hb5.size), HNX.out⟩
          case measure => simp [intOf]; omega
        · have HF := Lib.hid (fir_dump (e := e) (HY.out (by rw [hst, hft]; rfl)))
          rw [hft] at HFT
          clear HY HN
          go_wp2_with (fail)
          generalize ((wr.alloc (.cells #[.int .i64 d.cyl, .int .i64 d.heads, .int .i64 d.per, .int .i64 d.size, .slice (some ⟨g2, 0, none⟩) d.secs.length c2] 32)).alloc (.cells #[.string s.data, .int .i64 s.state] 56)) = w5 at *
          refine HFT.out.mono ?_; rintro r w6 ⟨rfl, hb6⟩
          have t0' := (RS.below hb6 (by omega)) 0 _ rfl
          have hb06 := hb5.trans (hb6.mono hb5.size)
          have fz := frozen_below FR hb06 (by omega)
          clear t0 t1 c0 c1 c2' c3 p0 p1 p2 p3 p4 s0 s1 HFT
          go_wp2_with (fail)
          have hne1 : w.heap.size + 1 ≠ wr.heap.size + 1 := by omega
          have hne2 : wr.heap.size + 1 ≠ w.heap.size + 1 := by omega
          have hne3 : w.heap.size ≠ wr.heap.size := by omega
          have hne4 : wr.heap.size ≠ w.heap.size := by omega
          have r0 := (RR.below hb06 (by omega)) 0 _ rfl
          have r1 := (RR.below hb06 (by omega)) 1 _ rfl
          have r2 := (RR.below hb06 (by omega)) 2 _ rfl
          have fz0 := fz 0
          have fz1 := fz 1
          have fz2 := fz 2
          go_region
          have RR6 := set3_row (RR.below hb06 (by omega)) (.int .i64 1) (.int .i64 (k : Int)) (.int .i64 (q : Int))
          have BB6 := set3_below (HBZ.trans (hb06.mono (by omega))) (b := w.heap.size + 1) (by omega) (.int .i64 1) (.int .i64 (k : Int)) (.int .i64 (q : Int))
          generalize (((w6.setCell ⟨w.heap.size + 1, 0, none⟩ (.int .i64 1)).setCell ⟨w.heap.size + 1, 1, none⟩ (.int .i64 (k : Int))).setCell ⟨w.heap.size + 1, 2, none⟩ (.int .i64 (q : Int))) = w7 at *
          have v0 := RR6 0 _ rfl
          have v1 := RR6 1 _ rfl
          have v2 := RR6 2 _ rfl
          go_wp2_with (fail)
          exact bodyPost_ret (v := .tuple #[.agg #[.int .i64 1, .int .i64 (k : Int), .int .i64 (q : Int)], .string s.data, .bool true]) (by simp [results, Tryz.results46, go_sem, v0, v1, v2] <;> rfl) rfl ⟨by rw [HF.out]; rfl, BB6.drew⟩
    · have HNO := Lib.hid (fid_end (by omega) HQ)
      have hbw := HBZ.trans (hb.mono (by omega))
      have HR := Lib.hid (rd_i B e _ _ _ _ k wr (H0.out.below hbw) hl5 HK.out)
      have HRZ := Lib.hid (rd_size HM.out HK.out)
      have HVZ := Lib.hid (vote_size HRZ.out)
      have hrl := rdF_len k e.ds
      have HFV := Lib.hid (fun hh => fir_vote (e := e) (k := k) HNO.out hh)
      have HFS := Lib.hid (fun hh => fir_solve (e := e) (k := k) HNO.out hh)
      generalize rdF k e.ds = R at *
      have re := RE.below hb (by omega)
      have c0 := re 0 _ rfl
      have c1 := re 1 _ rfl
      have c2' := re 2 _ rfl
      have c3 := re 3 _ rfl
      clear re
      go_wp2_with (fail)
      refine HR.out.mono ?_; rintro r w5 ⟨v5, rfl, ho5, hb5⟩
      have hb05 := hb.trans (hb5.mono zr)
      have z5 := hb05.size
      have HV := Lib.hid (votd_i _ R _ w5 ho5 (by omega) m HRZ.out (by omega))
      obtain ⟨A5, k5, rfl, _⟩ := OwnL.shape ho5
      clear ho5 HR c0 c1 c2' c3
      have HVZ' : Hid ((voteE R).1.size ≤ 4096) := Lib.hid (Nat.le_trans HVZ.out hm2)
      generalize voteE R = V at *
      have HSV := Lib.hid (fun (w' : World) (hb' : Below w0.heap.size w0 w') => slv_i B e _ _ _ _ k w' (H0.out.below (HBZ.trans (hb'.mono (by omega)))) hl5 HK.out hkc hcr m HM.out hm2)
      have HFT := Lib.hid (fun (w' : World) (hb' : Below w0.heap.size w0 w') => fits_i B e _ _ _ _ k V.1 w' (H0.out.below (HBZ.trans (hb'.mono (by omega)))) hkc hcr HVZ'.out)
      have HREC : Hid (∀ w', Below w0.heap.size w0 w' → Row w' w.heap.size [.slice A e.ds.length n, .slice (some ⟨g, 0, none⟩) e.cr.length kk, .slice C e.p.length i, .slice D e.q.length j]) := Lib.hid fun w' hb' => RE.below hb' (by omega)
      have HRRC : Hid (∀ w', Below w0.heap.size w0 w' → Row w' (w.heap.size + 1) [.int .i64 0, .int .i64 0, .int .i64 0] ∧ (∀ o, w'.frozen? ⟨w.heap.size + 1, o, none⟩ = false) ∧ Below w.heap.size w w') := Lib.hid fun w' hb' => ⟨RR.below hb' (by omega), frozen_below FR hb' (by omega), HBZ.trans (hb'.mono (by omega))⟩
      clear RE RR FR
      have hcase : ((V.2 = true ∧ fitB e.cr k V.1 = true) ∨ (V.2 && fitB e.cr k V.1) = false) := by
        cases V.2 <;> cases fitB e.cr k V.1 <;> simp
      cases hv : V.2
      · have HF := Lib.hid (HFS.out (by rw [hv]; rfl))
        rw [hv] at HV
        go_wp2_with (fail)
        refine HV.out.mono ?_; rintro r w6 ⟨rfl, hb6⟩
        have hb06 := hb05.trans (hb6.mono hb05.size)
        have re := HREC.out w6 hb06
        have c0 := re 0 _ rfl
        have c1 := re 1 _ rfl
        have c2' := re 2 _ rfl
        have c3 := re 3 _ rfl
        have HS6 := Lib.hid (HSV.out w6 hb06)
        clear re HSV HFT
        generalize slvE e k = V2 at *
        go_wp2_with (fail)
        refine HS6.out.mono ?_; rintro r w7 ⟨rfl, hb7⟩
        have hb07 := hb06.trans (hb7.mono hb06.size)
        clear c0 c1 c2' c3
        obtain ⟨RR7, FR7, BW7⟩ := HRRC.out w7 hb07
        have r0 := RR7 0 _ rfl
        have r1 := RR7 1 _ rfl
        have r2 := RR7 2 _ rfl
        have fz0 := FR7 0
        have fz1 := FR7 1
        have fz2 := FR7 2
        have RR8 := set3_row RR7 (.int .i64 3) (.int .i64 (k : Int)) (.int .i64 0)
        have BB8 := set3_below BW7 (b := w.heap.size + 1) (by omega) (.int .i64 3) (.int .i64 (k : Int)) (.int .i64 0)
        have v0 := RR8 0 _ rfl
        have v1 := RR8 1 _ rfl
        have v2 := RR8 2 _ rfl
        go_wp2_with (fail)
        exact bodyPost_ret (v := .tuple #[.agg #[.int .i64 3, .int .i64 (k : Int), .int .i64 0], .string V2.1, .bool V2.2]) (by simp [results, Tryz.results46, go_sem, v0, v1, v2] <;> rfl) rfl ⟨by rw [HF.out]; rfl, BB8⟩
      · cases hf : fitB e.cr k V.1
        · have HF := Lib.hid (HFS.out (by rw [hv, hf]; rfl))
          rw [hv] at HV
          rw [hf] at HFT
          go_wp2_with (fail)
          refine HV.out.mono ?_; rintro r w6 ⟨rfl, hb6⟩
          have hb06 := hb05.trans (hb6.mono hb05.size)
          have re := HREC.out w6 hb06
          have c0 := re 0 _ rfl
          have c1 := re 1 _ rfl
          have c2' := re 2 _ rfl
          have c3 := re 3 _ rfl
          have HT6 := Lib.hid (HFT.out w6 hb06)
          clear re HFT
          go_wp2_with (fail)
          refine HT6.out.mono ?_; rintro r w8 ⟨rfl, hb8⟩
          have hb08 := hb06.trans (hb8.mono hb06.size)
          clear c0 c1 c2' c3
          have re := HREC.out w8 hb08
          have c0 := re 0 _ rfl
          have c1 := re 1 _ rfl
          have c2' := re 2 _ rfl
          have c3 := re 3 _ rfl
          have HS6 := Lib.hid (HSV.out w8 hb08)
          clear re HSV
          generalize slvE e k = V2 at *
          go_wp2_with (fail)
          refine HS6.out.mono ?_; rintro r w7 ⟨rfl, hb7⟩
          have hb07 := hb08.trans (hb7.mono hb08.size)
          clear c0 c1 c2' c3
          obtain ⟨RR7, FR7, BW7⟩ := HRRC.out w7 hb07
          have r0 := RR7 0 _ rfl
          have r1 := RR7 1 _ rfl
          have r2 := RR7 2 _ rfl
          have fz0 := FR7 0
          have fz1 := FR7 1
          have fz2 := FR7 2
          have RR8 := set3_row RR7 (.int .i64 3) (.int .i64 (k : Int)) (.int .i64 0)
          have BB8 := set3_below BW7 (b := w.heap.size + 1) (by omega) (.int .i64 3) (.int .i64 (k : Int)) (.int .i64 0)
          have v0 := RR8 0 _ rfl
          have v1 := RR8 1 _ rfl
          have v2 := RR8 2 _ rfl
          go_wp2_with (fail)
          exact bodyPost_ret (v := .tuple #[.agg #[.int .i64 3, .int .i64 (k : Int), .int .i64 0], .string V2.1, .bool V2.2]) (by simp [results, Tryz.results46, go_sem, v0, v1, v2] <;> rfl) rfl ⟨by rw [HF.out]; rfl, BB8⟩
        · have HF := Lib.hid (HFV.out (by rw [hv, hf]; rfl))
          rw [hv] at HV
          rw [hf] at HFT
          go_wp2_with (fail)
          refine HV.out.mono ?_; rintro r w6 ⟨rfl, hb6⟩
          have hb06 := hb05.trans (hb6.mono hb05.size)
          have re := HREC.out w6 hb06
          have c0 := re 0 _ rfl
          have c1 := re 1 _ rfl
          have c2' := re 2 _ rfl
          have c3 := re 3 _ rfl
          have HT6 := Lib.hid (HFT.out w6 hb06)
          clear re HFT
          go_wp2_with (fail)
          refine HT6.out.mono ?_; rintro r w7 ⟨rfl, hb7⟩
          have hb07 := hb06.trans (hb7.mono hb06.size)
          clear c0 c1 c2' c3
          obtain ⟨RR7, FR7, BW7⟩ := HRRC.out w7 hb07
          have r0 := RR7 0 _ rfl
          have r1 := RR7 1 _ rfl
          have r2 := RR7 2 _ rfl
          have fz0 := FR7 0
          have fz1 := FR7 1
          have fz2 := FR7 2
          have RR8 := set3_row RR7 (.int .i64 2) (.int .i64 (k : Int)) (.int .i64 0)
          have BB8 := set3_below BW7 (b := w.heap.size + 1) (by omega) (.int .i64 2) (.int .i64 (k : Int)) (.int .i64 0)
          have v0 := RR8 0 _ rfl
          have v1 := RR8 1 _ rfl
          have v2 := RR8 2 _ rfl
          go_wp2_with (fail)
          exact bodyPost_ret (v := .tuple #[.agg #[.int .i64 2, .int .i64 (k : Int), .int .i64 0], .string V.1, .bool true]) (by simp [results, Tryz.results46, go_sem, v0, v1, v2] <;> rfl) rfl ⟨by rw [HF.out]; rfl, BB8⟩
end Go.Proofs.YtddihmpiaemadaaGreatDoor
namespace Go.Proofs.YtddihmpiaemadaaGreatDoor
set_option linter.unusedVariables false
set_option linter.unusedSimpArgs false
open Go.RowKit
def zSec (m : Nat) : Sec := ⟨strN (List.replicate m 0), 3⟩
def nSec : Sec := ⟨.empty, 0⟩
theorem secv_info : (Tryz.prog.info? 56).map (fun i => (i.zero, i.size, i.bytes)) = some (some (.agg #[.string .empty, .int .i64 0]), 2, 24) := by kernel_rfl
theorem secs_set {B g n c : Nat} {w : World} {l : List Sec} (h : SecOwn B w (.slice (some ⟨g, 0, none⟩) n c) l) (hn : l.length = n) {k : Nat} (hk : k < n) (s : Sec) :
    SecOwn B ((w.setCell ⟨g, k * 2, none⟩ (.string s.data)).setCell ⟨g, k * 2 + 1, none⟩ (.int .i64 s.state)) (.slice (some ⟨g, 0, none⟩) n c) (l.set k s) := by
  subst hn
  have h1 := own_put2 (o := k * 2) h (.string s.data) (.int .i64 s.state) (by rw [flat_len Sec.len]; omega)
  have h2 := flat_put Sec.len l k s hk
  have h3 : putAt (flat Sec.cells l) (k * 2) [.string s.data, .int .i64 s.state] = flat Sec.cells (l.set k s) := h2
  rw [h3] at h1
  unfold SecOwn OwnL
  rw [List.length_set]
  exact h1
theorem secs_at {B g n c : Nat} {w : World} {l : List Sec} (h : SecOwn B w (.slice (some ⟨g, 0, none⟩) n c) l) (hn : l.length = n) {k : Nat} {s : Sec} (hs : l[k]? = some s) :
    w.cell? ⟨g, k * 2, none⟩ = some (.string s.data) ∧ w.cell? ⟨g, k * 2 + 1, none⟩ = some (.int .i64 s.state) ∧ ∀ o, w.frozen? ⟨g, o, none⟩ = false := by
  subst hn
  exact ⟨OwnL.cell Sec.len h hs (j := 0) rfl, OwnL.cell Sec.len h hs (j := 1) rfl, fun o => OwnL.frozen h⟩
theorem set2_below {w w6 : World} {b o : Nat} (h : Below w.heap.size w w6) (hb : w.heap.size ≤ b) (v0 v1 : Value) : Below w.heap.size w ((w6.setCell ⟨b, o, none⟩ v0).setCell ⟨b, o + 1, none⟩ v1) := Below.setCell (Below.setCell h hb _) hb _
def fillL {α : Type} (N j : Nat) (z a : α) : List α := List.replicate j z ++ List.replicate (N - j) a
theorem fillL_len {α : Type} {N j : Nat} (z a : α) (h : j ≤ N) : (fillL N j z a).length = N := by unfold fillL; simp; omega
theorem fillL_next {α : Type} {N j : Nat} (z a : α) (h : j < N) : (fillL N j z a).set j z = fillL N (j + 1) z a := by
  unfold fillL
  rw [List.set_append_right _ _ (by simp)]
  have e1 : N - j = (N - (j + 1)) + 1 := by omega
  rw [e1, List.replicate_succ]
  simp only [List.length_replicate, Nat.sub_self, List.set_cons_zero]
  rw [List.replicate_succ', List.append_assoc]; rfl
theorem fillL_end {α : Type} {N : Nat} (z a : α) : fillL N N z a = List.replicate N z := by unfold fillL; simp
theorem set5_row {w : World} {b : Nat} {a0 a1 a2 a3 a4 : Value} (h : Row w b [a0, a1, a2, a3, a4]) (v0 v1 v2 v3 v4 : Value) : Row (((((w.setCell ⟨b, 0, none⟩ v0).setCell ⟨b, 1, none⟩ v1).setCell ⟨b, 2, none⟩ v2).setCell ⟨b, 3, none⟩ v3).setCell ⟨b, 4, none⟩ v4) b [v0, v1, v2, v3, v4] := by
  have h0 := h.set (o := 0) v0 (by simp)
  have h1 := h0.set (o := 1) v1 (by simp)
  have h2 := h1.set (o := 2) v2 (by simp)
  have h3 := h2.set (o := 3) v3 (by simp)
  have h4 := h3.set (o := 4) v4 (by simp)
  exact h4
set_option maxRecDepth 20000 in
set_option maxHeartbeats 8000000 in
theorem new_i (c h p s : Int) (T N : Nat) (w : World) (hT : c * h = (T : Int)) (hN : (T : Int) * p = (N : Int)) (hT1 : T ≤ 1048576) (hN1 : N ≤ 1048576) (hs : 0 ≤ s ∧ s ≤ 2) :
    Calls Tryz.prog 44 #[.int .i64 c, .int .i64 h, .int .i64 p, .int .i64 s] w fun r w' => ∃ v', r = .returned (.agg #[.int .i64 c, .int .i64 h, .int .i64 p, .int .i64 s, v']) ∧ SecOwn w.heap.size w' v' (List.replicate N (zSec (szN s))) ∧ Below w.heap.size w w' := by
  obtain ⟨i0, hi, hz0, hz1, hz2⟩ := info_parts secv_info
  have hm := szN_le hs
  go_enter Tryz.func44, Tryz.ntmps44
  go_wp2_with (at_make; refine stopQ ?_)
  intro _
  refine wpList_make_full _ rfl _ _ _ rfl (w.heap.size + 1) 56 i0 (.agg #[.string .empty, .int .i64 0]) 2 Tryz.underlying30 hi hz0 hz1 .i64 .i64 _ _ N rfl rfl rfl rfl (by rw [hz2]; omega) (by unfold maxLen; omega) (by simp) ?_
  intro w1 hown hgrow
  have zb0 : (w.alloc (.cells #[.int .i64 0, .int .i64 0, .int .i64 0, .int .i64 0, .slice none 0 0] 32)).heap.size = w.heap.size + 1 := by simp
  have RR0 := Row.alloc w #[.int .i64 0, .int .i64 0, .int .i64 0, .int .i64 0, .slice none 0 0] 32
  have FR0 := frozen_alloc w #[.int .i64 0, .int .i64 0, .int .i64 0, .int .i64 0, .slice none 0 0] 32
  have HB0 : Below w.heap.size w (w.alloc (.cells #[.int .i64 0, .int .i64 0, .int .i64 0, .int .i64 0, .slice none 0 0] 32)) := Below.alloc (Below.refl _ _) (Nat.le_refl _) _
  have hg1 : Below (w.alloc (.cells #[.int .i64 0, .int .i64 0, .int .i64 0, .int .i64 0, .slice none 0 0] 32)).heap.size (w.alloc (.cells #[.int .i64 0, .int .i64 0, .int .i64 0, .int .i64 0, .slice none 0 0] 32)) w1 := (Below.refl _ _).grown hgrow (Nat.le_refl _) (by simp)
  rw [made_flat (f := Sec.cells) Sec.len (by omega) nSec (Value.agg #[.string .empty, .int .i64 0]).cells rfl] at hown
  have hlt1 := (hown.lt _ rfl).2
  rw [zb0] at hlt1
  have RR1 := RR0.below hg1 (by omega)
  have FR1 := frozen_below FR0 hg1 (by omega)
  have HB1 := HB0.trans (hg1.mono (by omega))
  rw [zb0] at hown
  have HOW1 : SecOwn (w.heap.size + 1) w1 (.slice (some ⟨w.heap.size + 1, 0, none⟩) N N) (fillL N 0 (zSec (szN s)) nSec) := by
    unfold SecOwn OwnL
    rw [fillL_len _ _ (Nat.zero_le _)]
    have : fillL N 0 (zSec (szN s)) nSec = List.replicate N nSec := by unfold fillL; simp
    rw [this]; exact hown
  rw [zb0]
  clear hown hgrow RR0 FR0 hg1 HB0 zb0
  go_wp2_with (fail)
  have zs2 : (((w1.alloc (.cells #[.int .i64 c, .int .i64 h, .int .i64 p, .int .i64 s, .slice (some ⟨w.heap.size + 1, 0, none⟩) N N] 32)))).heap.size = w1.heap.size + 1 := by simp
  have RB2 := Row.alloc w1 #[.int .i64 c, .int .i64 h, .int .i64 p, .int .i64 s, .slice (some ⟨w.heap.size + 1, 0, none⟩) N N] 32
  have hb12 : Below w1.heap.size w1 ((w1.alloc (.cells #[.int .i64 c, .int .i64 h, .int .i64 p, .int .i64 s, .slice (some ⟨w.heap.size + 1, 0, none⟩) N N] 32))) := Below.alloc (Below.refl _ _) (Nat.le_refl _) _
  have RR2 := RR1.below hb12 (by omega)
  have FR2 := frozen_below FR1 hb12 (by omega)
  have HB2 := HB1.trans (hb12.mono (by omega))
  have HOW2 := OwnL.below HOW1 hb12
  generalize hbb : w1.heap.size = bb at *
  generalize ((w1.alloc (.cells #[.int .i64 c, .int .i64 h, .int .i64 p, .int .i64 s, .slice (some ⟨w.heap.size + 1, 0, none⟩) N N] 32))) = w2 at *
  clear hb12 RR1 FR1 HB1 HOW1
  go_loopw [25] (fun ii wr => ∃ j : Nat, j ≤ N ∧ ii = .int .i64 j ∧ Below w.heap.size w wr ∧ Hid (SecOwn (w.heap.size + 1) wr (.slice (some ⟨w.heap.size + 1, 0, none⟩) N N) (fillL N j (zSec (szN s)) nSec)) ∧ Hid (Row wr bb [.int .i64 c, .int .i64 h, .int .i64 p, .int .i64 s, .slice (some ⟨w.heap.size + 1, 0, none⟩) N N]) ∧ Hid (Row wr w.heap.size [.int .i64 0, .int .i64 0, .int .i64 0, .int .i64 0, .slice none 0 0]) ∧ Hid (∀ o, wr.frozen? ⟨w.heap.size, o, none⟩ = false) ∧ bb < wr.heap.size) (fun ii _ => N - (intOf ii).toNat)
  case atStart => exact ⟨0, by omega, rfl, HB2, Lib.hid HOW2, Lib.hid RB2, Lib.hid RR2, Lib.hid FR2, by omega⟩
  case round =>
    clear HB2 HOW2 RB2 RR2 FR2
    obtain ⟨j, hj, rfl, hb, HOW, HRB, HRR, HFR, hbbr⟩ := hrel
    have zr := hb.size
    have b4 := HRB.out 4 _ rfl
    by_cases hlt : j < N
    · have hZ := Lib.hid (zeros_i (szN s) wr.drew (by omega))
      have hBY := Lib.hid (fun (w' : World) => bytes_i s w' hs)
      have hne1 : bb ≠ w.heap.size + 1 := by omega
      have hne2 : w.heap.size + 1 ≠ bb := by omega
      have hlen : (fillL N j (zSec (szN s)) nSec).length = N := fillL_len _ _ hj
      have hget : (fillL N j (zSec (szN s)) nSec)[j]? = some nSec := by
        unfold fillL
        rw [List.getElem?_append_right (by simp), List.length_replicate, Nat.sub_self, List.getElem?_replicate, if_pos (by omega)]
      have HGET := Lib.hid hget
      have HLEN := Lib.hid hlen
      have hlt' : (j : Int) < (N : Int) := by omega
      clear hget hlen
      go_wp2_with (fail)
      go_region_held3 (fun w' => w'.cell? ⟨bb, 4, none⟩ = some (.slice (some ⟨w.heap.size + 1, 0, none⟩) N N))
        (first | exact b4 | exact b46 | exact HS6.out _ _)
        (first
          | (go_at_call 43; refine (hBY.out _).mono ?_; rintro r w5 ⟨rfl, rfl⟩)
          | (go_at_call 80; refine hZ.out.mono ?_; rintro r w6 ⟨rfl, hb6⟩; have HB6 := Lib.hid ((Below.refl wr.heap.size wr).drew.trans hb6); have HO6 := Lib.hid (OwnL.below HOW.out HB6.out); have HR6 := Lib.hid (HRB.out.below HB6.out hbbr); have b46 := HR6.out 4 _ rfl; have HS6 : Hid (∀ v0 v1, ((w6.setCell ⟨w.heap.size + 1, j * 2, none⟩ v0).setCell ⟨w.heap.size + 1, j * 2 + 1, none⟩ v1).cell? ⟨bb, 4, none⟩ = some (.slice (some ⟨w.heap.size + 1, 0, none⟩) N N)) := Lib.hid (fun v0 v1 => ((HR6.out.set_other v0 hne1).set_other v1 hne1) 4 _ rfl); obtain ⟨q0, q1, fz⟩ := secs_at HO6.out HLEN.out HGET.out))
      have HOW7 := secs_set HO6.out HLEN.out hlt (zSec (szN s))
      rw [fillL_next _ _ hlt] at HOW7
      have HB7 := set2_below (hb.trans (HB6.out.mono zr)) (b := w.heap.size + 1) (o := j * 2) (by omega) (.string (strN (List.replicate (szN s) 0))) (.int .i64 3)
      have hz7 : w6.heap.size ≤ ((w6.setCell ⟨w.heap.size + 1, j * 2, none⟩ (.string (strN (List.replicate (szN s) 0)))).setCell ⟨w.heap.size + 1, j * 2 + 1, none⟩ (.int .i64 3)).heap.size := by rw [setCell_size, setCell_size]; exact Nat.le_refl _
      have hz6 : wr.heap.size ≤ w6.heap.size := HB6.out.size
      have HRB7 := (HR6.out.set_other (o := j * 2) (.string (strN (List.replicate (szN s) 0))) hne1).set_other (o := j * 2 + 1) (.int .i64 3) hne1
      have HRR7 := ((HRR.out.below HB6.out (by omega)).set_other (g := w.heap.size + 1) (o := j * 2) (.string (strN (List.replicate (szN s) 0))) (by omega)).set_other (g := w.heap.size + 1) (o := j * 2 + 1) (.int .i64 3) (by omega)
      have HFR7 : ∀ o, ((w6.setCell ⟨w.heap.size + 1, j * 2, none⟩ (.string (strN (List.replicate (szN s) 0)))).setCell ⟨w.heap.size + 1, j * 2 + 1, none⟩ (.int .i64 3)).frozen? ⟨w.heap.size, o, none⟩ = false := fun o => by rw [setCell_frozen, setCell_frozen]; exact frozen_below HFR.out HB6.out (by omega) o
      clear b4 b46 q0 q1 fz HS6 hb6 hZ
      go_wp2_with (fail)
      go_roundw
      case rel => exact ⟨j + 1, by omega, by go_num, HB7, Lib.hid HOW7, Lib.hid HRB7, Lib.hid HRR7, Lib.hid HFR7, by omega⟩
      case measure => simp [intOf]; omega
    · obtain rfl : j = N := by omega
      have HO := HOW.out
      rw [fillL_end] at HO
      have x0 := HRB.out 0 _ rfl
      have x1 := HRB.out 1 _ rfl
      have x2 := HRB.out 2 _ rfl
      have x3 := HRB.out 3 _ rfl
      have y0 := HRR.out 0 _ rfl
      have y1 := HRR.out 1 _ rfl
      have y2 := HRR.out 2 _ rfl
      have y3 := HRR.out 3 _ rfl
      have y4 := HRR.out 4 _ rfl
      have f0 := HFR.out 0
      have f1 := HFR.out 1
      have f2 := HFR.out 2
      have f3 := HFR.out 3
      have f4 := HFR.out 4
      have R9 := set5_row HRR.out (.int .i64 c) (.int .i64 h) (.int .i64 p) (.int .i64 s) (.slice (some ⟨w.heap.size + 1, 0, none⟩) j j)
      have v0 := R9 0 _ rfl
      have v1 := R9 1 _ rfl
      have v2 := R9 2 _ rfl
      have v3 := R9 3 _ rfl
      have v4 := R9 4 _ rfl
      have HO9 : SecOwn (w.heap.size + 1) (((((wr.setCell ⟨w.heap.size, 0, none⟩ (.int .i64 c)).setCell ⟨w.heap.size, 1, none⟩ (.int .i64 h)).setCell ⟨w.heap.size, 2, none⟩ (.int .i64 p)).setCell ⟨w.heap.size, 3, none⟩ (.int .i64 s)).setCell ⟨w.heap.size, 4, none⟩ (.slice (some ⟨w.heap.size + 1, 0, none⟩) j j)) (.slice (some ⟨w.heap.size + 1, 0, none⟩) j j) (List.replicate j (zSec (szN s))) := far_set (far_set (far_set (far_set (far_set HO (Nat.lt_succ_self _)) (Nat.lt_succ_self _)) (Nat.lt_succ_self _)) (Nat.lt_succ_self _)) (Nat.lt_succ_self _)
      have HB9 : Below w.heap.size w (((((wr.setCell ⟨w.heap.size, 0, none⟩ (.int .i64 c)).setCell ⟨w.heap.size, 1, none⟩ (.int .i64 h)).setCell ⟨w.heap.size, 2, none⟩ (.int .i64 p)).setCell ⟨w.heap.size, 3, none⟩ (.int .i64 s)).setCell ⟨w.heap.size, 4, none⟩ (.slice (some ⟨w.heap.size + 1, 0, none⟩) j j)) := Below.setCell (Below.setCell (Below.setCell (Below.setCell (Below.setCell hb (Nat.le_refl _) _) (Nat.le_refl _) _) (Nat.le_refl _) _) (Nat.le_refl _) _) (Nat.le_refl _) _
      clear HO
      go_wp2_with (fail)
      generalize (((((wr.setCell ⟨w.heap.size, 0, none⟩ (.int .i64 c)).setCell ⟨w.heap.size, 1, none⟩ (.int .i64 h)).setCell ⟨w.heap.size, 2, none⟩ (.int .i64 p)).setCell ⟨w.heap.size, 3, none⟩ (.int .i64 s)).setCell ⟨w.heap.size, 4, none⟩ (.slice (some ⟨w.heap.size + 1, 0, none⟩) j j)) = W9 at *
      exact bodyPost_ret (v := .agg #[.int .i64 c, .int .i64 h, .int .i64 p, .int .i64 s, .slice (some ⟨w.heap.size + 1, 0, none⟩) j j]) (by simp [results, Tryz.results44, go_sem, v0, v1, v2, v3, v4] <;> rfl) rfl ⟨_, rfl, OwnL.base HO9 (by omega), HB9⟩
end Go.Proofs.YtddihmpiaemadaaGreatDoor
namespace Go.Proofs.YtddihmpiaemadaaGreatDoor
set_option linter.unusedVariables false
set_option linter.unusedSimpArgs false
open Go.RowKit
def rsB (pt qt : ByteArray) (G : List ByteArray × Int) : Bool := !(decide (pt.size = 0) && decide (qt.size = 0)) && (G.2 == 0)
theorem rsB_none {pt qt : ByteArray} {G : List ByteArray × Int} (h1 : pt.size = 0) (h2 : qt.size = 0) : rsB pt qt G = false := by unfold rsB; rw [decide_eq_true h1, decide_eq_true h2]; rfl
theorem rsB_p {pt qt : ByteArray} {G : List ByteArray × Int} (h1 : ¬ pt.size = 0) : rsB pt qt G = (G.2 == 0) := by unfold rsB; rw [decide_eq_false h1]; rfl
theorem rsB_q {pt qt : ByteArray} {G : List ByteArray × Int} (h1 : ¬ qt.size = 0) : rsB pt qt G = (G.2 == 0) := by unfold rsB; rw [decide_eq_false h1, Bool.and_false]; rfl
theorem step_appP {P : Program} {α : Type} (f : α → List Value) (z : Nat) (hf : ∀ a, (f a).length = z) (w : World) {ops : Array Oper} {o : Oper} {a : Act} {K : Act → World → Prop} {Q : Exit → Act → World → Prop} {E : Prop} (hgd : o.guard = none) (s x : Operand) (t : TypeId)
    (ho : o.op = .call { callee := .builtin .append, args := #[s, x], argTypes := #[t, t] })
    (B : Nat) (e : TypeId) (i : TypeInfo) (zv : Value) (bytes : Nat) (ht : P.underlying t = some (.slice e)) (hi : P.info? e = some i) (hz : i.zero = some zv)
    (hsize : i.size = z) (hby : i.bytes = bytes) (hzs : zv.cells.size = z) (hsz : 0 < z)
    (v : Value) (l : List α) (hs : a.eval s = v) (hown : OwnL f z e B w v l)
    (gx c : Nat) (el : α) (hx : a.eval x = .slice (some ⟨gx, 0, none⟩) 1 c) (hnews : ∀ j u, (f el)[j]? = some u → w.cell? ⟨gx, j, none⟩ = some u) (h1 : ∀ u ∈ f el, u.oneCell' = true)
    (hn : l.length + 1 ≤ 16777216) (hbytes : bytes ≤ 4096) (hbase : B ≤ w.heap.size)
    (h : ∀ g cap w', OwnL f z e B w' (.slice (some ⟨g, 0, none⟩) (l.length + 1) cap) (l ++ [el]) → w.grownBy w' v.ownBlock → (v.ownBlock = some g ∨ g = w.heap.size) → K (a.put o.dst (.slice (some ⟨g, 0, none⟩) (l.length + 1) cap)) w') :
    if Region.wanted o (yielded ops a.tmps) = true then Oper.wp P o a w K Q else E := by
  refine step_append_lies w hgd s x t ho B e i zv z bytes ht hi hz hsize hby hzs hsz v l.length (flat f l) hs hown ⟨gx, 0, none⟩ 1 c (f el) hx (by rw [hf]; omega) ?_ h1 (by omega) (by unfold maxLen; omega) ?_ hbase _ rfl ?_
  · intro j u hu
    have e2 : (⟨gx, 0, none⟩ : Addr).add j = ⟨gx, j, none⟩ := by unfold Addr.add; split <;> simp_all
    rw [e2]; exact hnews j u hu
  · have : (l.length + 1) * bytes ≤ 16777216 * 4096 := Nat.mul_le_mul hn hbytes
    omega
  · intro g cap w' h2 h3 h4 _
    refine h g cap w' ?_ h3 h4
    unfold OwnL
    rw [flat_app, List.length_append]
    simpa [flat] using h2
end Go.Proofs.YtddihmpiaemadaaGreatDoor
