/- LostSectors, the implementation: the walk. A source checked, the implementation: the walk. -/
import Derived.Test.YtddihmpiaemadaaGreatDoorFc38
import Derived.Test.YtddihmpiaemadaaGreatDoorFc37
import Derived.Test.YtddihmpiaemadaaGreatDoorFc19
import Derived.Test.YtddihmpiaemadaaGreatDoorFc18
import Derived.Test.YtddihmpiaemadaaGreatDoorFc21
import Derived.Test.YtddihmpiaemadaaGreatDoorFc24
namespace Go.Proofs.YtddihmpiaemadaaGreatDoor
set_option linter.unusedVariables false
set_option linter.unusedSimpArgs false
open Go.RowKit
set_option maxRecDepth 20000 in
set_option maxHeartbeats 8000000 in
theorem los_i (B : Nat) (e : Evd) (va vb vc vd : Value) (w : World) (h : EvOwn B w e va vb vc vd) (hs : EvSmall e) :
    Calls Tryz.prog 7 #[evV va vb vc vd] w fun r w' => ∃ v, r = .returned (.tuple #[v, .int .i64 (rdC e)]) ∧ Int64L w.heap.size w' v (rpLo e) ∧ Below w.heap.size w w' := by
  have H0 := Lib.hid h
  obtain ⟨i0, hi, hz0', hz1', hz2'⟩ := info_parts icell_info
  obtain ⟨A, n, B', kk, C, i, D, j, rfl, rfl, rfl, rfl⟩ := h.shape
  have HBZ : Below w.heap.size w (w.alloc (.cells #[.slice A e.ds.length n, .slice B' e.cr.length kk, .slice C e.p.length i, .slice D e.q.length j] 28)) := Below.alloc (Below.refl _ _) (Nat.le_refl _) _
  have RE := Row.alloc w #[.slice A e.ds.length n, .slice B' e.cr.length kk, .slice C e.p.length i, .slice D e.q.length j] 28
  have zz : ((w.alloc (.cells #[.slice A e.ds.length n, .slice B' e.cr.length kk, .slice C e.p.length i, .slice D e.q.length j] 28))).heap.size = w.heap.size + 1 := by simp
  have HV := Lib.hid (ev_i B e _ _ _ _ (w.alloc (.cells #[.slice A e.ds.length n, .slice B' e.cr.length kk, .slice C e.p.length i, .slice D e.q.length j] 28)) (h.below HBZ) hs)
  have l0 := RE 0 _ rfl
  have l1 := RE 1 _ rfl
  have l2 := RE 2 _ rfl
  have l3 := RE 3 _ rfl
  have HRE := Lib.hid RE
  have HB := Lib.hid HBZ
  clear h RE HBZ
  go_enter Tryz.func7, Tryz.ntmps7
  cases hok : evOk e
  · rw [hok] at HV
    have hL : rpLo e = [] := by unfold rpLo; rw [hok]; rfl
    have hC : rdC e = 1 := by unfold rdC; rw [hok]; rfl
    rw [hL, hC]
    clear hL hC
    go_wp2_with (fail)
    generalize (w.alloc (.cells #[.slice A e.ds.length n, .slice B' e.cr.length kk, .slice C e.p.length i, .slice D e.q.length j] 28)) = w0 at *
    refine HV.out.mono ?_; rintro r w4 ⟨rfl, hb4⟩
    have hb := HB.out.trans (hb4.mono (by omega))
    go_wp2_with (fail)
    go_ret2
    exact ⟨_, rfl, OwnL.of_nil, hb⟩
  · obtain ⟨z, P, m, T, N, F⟩ := rd_f hok
    rw [hok] at HV
    have hL : rpLo e = fltN (rdM e) N := by unfold rpLo; rw [hok, F.hz, F.hl]; rfl
    have hC : rdC e = 0 := by unfold rdC; rw [hok]; rfl
    have hle := F.le
    have hSN : (rdS e).length = N := by rw [F.hs]; exact rpS_len
    have HREP := Lib.hid (fun (w' : World) (hb : Below w.heap.size w w') => rep_i B e _ _ _ _ z P m T N F.f F.hn w' (H0.out.below hb))
    rw [← F.hs] at HREP
    rw [hL, hC]
    clear hL hC hok F
    go_wp2_with (fail)
    generalize (w.alloc (.cells #[.slice A e.ds.length n, .slice B' e.cr.length kk, .slice C e.p.length i, .slice D e.q.length j] 28)) = w0 at *
    refine HV.out.mono ?_; rintro r w4 ⟨rfl, hb4⟩
    have hb := HB.out.trans (hb4.mono (by omega))
    have z4 := hb4.size
    have RE4 := HRE.out.below hb4 (by omega)
    have l0 := RE4 0 _ rfl
    have l1 := RE4 1 _ rfl
    have l2 := RE4 2 _ rfl
    have l3 := RE4 3 _ rfl
    go_wp2_with (fail)
    refine (HREP.out w4 hb).mono ?_; rintro r w5 ⟨x, y, K, rfl, hx, hxk, hwk, hy, hb5⟩
    obtain ⟨X, c, rfl, hX⟩ := OwnL.shape hx
    rw [hSN] at hx ⊢
    obtain ⟨Y, ly, cy, rfl⟩ := own_slice hy
    have z5 := hb5.size
    have Ba : Below w5.heap.size w5 ((w5.alloc (.cells #[.int .i64 z.cyl, .int .i64 z.heads, .int .i64 (P : Int), .int .i64 z.size, .slice X N c] 32)).alloc (.cells #[.slice Y ly cy] 35)) := Below.alloc (Below.alloc (Below.refl _ _) (Nat.le_refl _) _) (by simp) _
    have z6 : (((w5.alloc (.cells #[.int .i64 z.cyl, .int .i64 z.heads, .int .i64 (P : Int), .int .i64 z.size, .slice X N c] 32)).alloc (.cells #[.slice Y ly cy] 35))).heap.size = w5.heap.size + 2 := by simp
    have RD : Row ((w5.alloc (.cells #[.int .i64 z.cyl, .int .i64 z.heads, .int .i64 (P : Int), .int .i64 z.size, .slice X N c] 32)).alloc (.cells #[.slice Y ly cy] 35)) w5.heap.size [.int .i64 z.cyl, .int .i64 z.heads, .int .i64 (P : Int), .int .i64 z.size, .slice X N c] := (Row.alloc w5 #[.int .i64 z.cyl, .int .i64 z.heads, .int .i64 (P : Int), .int .i64 z.size, .slice X N c] 32).below (Below.alloc (Below.refl _ _) (Nat.le_refl _) _) (by simp)
    have HX := Lib.hid hX
    have HLW : Hid (LosW w w5.heap.size [.int .i64 z.cyl, .int .i64 z.heads, .int .i64 (P : Int), .int .i64 z.size, .slice X N c] (.slice X N c) (rdS e) (rdM e) ((w5.alloc (.cells #[.int .i64 z.cyl, .int .i64 z.heads, .int .i64 (P : Int), .int .i64 z.size, .slice X N c] 32)).alloc (.cells #[.slice Y ly cy] 35)) (.slice none 0 0) 0) := Lib.hid
      ⟨(hb.trans (hb5.mono (by have := hb.size; omega))).trans (Ba.mono (by have := hb.size; omega)), OwnL.of_nil, RD, OwnL.below (OwnL.base hx (by omega)) Ba, (fun e0 => nomatch e0), (fun k e0 => nomatch e0), by omega⟩
    have x4 := RD 4 _ rfl
    have HSN := Lib.hid hSN
    clear RE4 l0 l1 l2 l3 hx hy hX Ba RD hb5 hSN HV HRE HREP
    go_wp2_with (fail)
    clear x4
    go_loopw [20, 6] (fun ii out wx => ∃ q : Nat, q ≤ N ∧ ii = .int .i64 q ∧ Hid (LosW w w5.heap.size [.int .i64 z.cyl, .int .i64 z.heads, .int .i64 (P : Int), .int .i64 z.size, .slice X N c] (.slice X N c) (rdS e) (rdM e) wx out q)) (fun ii _ _ => N - (intOf ii).toNat)
    case atStart => exact ⟨0, by omega, rfl, HLW⟩
    case round =>
      clear HLW
      obtain ⟨q, hq, rfl, HW⟩ := hrel
      by_cases hlt : q < N
      · obtain ⟨s, hs⟩ : ∃ s, (rdS e)[q]? = some s := ⟨(rdS e)[q]'(by rw [HSN.out]; exact hlt), List.getElem?_eq_getElem (by rw [HSN.out]; exact hlt)⟩
        have hsE : rdS e ≠ [] := fun e0 => by rw [e0] at hs; simp at hs
        obtain ⟨g, rfl, _, _⟩ := HX.out.resolve_left hsE
        have c0 := OwnL.at1 Sec.len HW.out.s hs (j := 0) rfl
        have c1 := OwnL.at1 Sec.len HW.out.s hs (j := 1) rfl
        simp only [Nat.add_zero] at c0
        have hM := rdM_at hs
        have hqi : (q : Int) < (N : Int) := by omega
        have Bb : Below wr.heap.size wr (wr.alloc (.cells #[.string s.data, .int .i64 s.state] 56)) := Below.alloc (Below.refl _ _) (Nat.le_refl _) _
        have HW7 := Lib.hid (HW.out.below Bb)
        have z7 : ((wr.alloc (.cells #[.string s.data, .int .i64 s.state] 56))).heap.size = wr.heap.size + 1 := by simp
        cases hst : (s.state == 3)
        · have HW8 := Lib.hid (HW7.out.no (hM.trans hst))
          clear hs hsE hM HW HW7 Bb
          go_wp2_with (fail)
          go_roundw
          case rel => exact ⟨q + 1, by omega, by go_num, HW8⟩
          case measure => simp [intOf]; omega
        · have Bc : Below ((wr.alloc (.cells #[.string s.data, .int .i64 s.state] 56))).heap.size (wr.alloc (.cells #[.string s.data, .int .i64 s.state] 56)) (((wr.alloc (.cells #[.string s.data, .int .i64 s.state] 56))).alloc (.cells #[.int .i64 (q : Int)] 2)) := Below.alloc (Below.refl _ _) (Nat.le_refl _) _
          have HW8 := Lib.hid (HW7.out.below Bc)
          have RA := Row.alloc (wr.alloc (.cells #[.string s.data, .int .i64 s.state] 56)) #[.int .i64 (q : Int)] 2
          rw [z7] at RA
          have hfl := flt_len (rdM e) q
          have HM := Lib.hid (hM.trans hst)
          have z8 := HW8.out.bw.size
          clear hs hsE hM HW HW7 Bb Bc
          go_wp2_with (at_builtin; refine stopQ ?_)
          intro _
          refine wpList_app1at icell 1 icell_len _ rfl _ _ _ rfl w.heap.size 2 i0 (.int .i64 0) 8 Tryz.underlying25 hi hz0' hz1' hz2' rfl (by decide) _ (fltN (rdM e) q) rfl HW8.out.l _ 1 (q : Int) rfl RA (by simp [icell, Value.oneCell']) (by omega) (by omega) z8 ?_
          intro v' w12 how hgr hat
          have HW9 := Lib.hid (HW8.out.app z8 hgr how hat HM.out)
          clear HW8 RA how hgr hat c0 c1
          go_wp2_with (fail)
          go_roundw
          case rel => exact ⟨q + 1, by omega, by go_num, HW9⟩
          case measure => simp [intOf]; omega
      · obtain rfl : N = q := by omega
        go_wp2_with (fail)
        go_ret2
        exact ⟨_, rfl, HW.out.l, HW.out.bw⟩
end Go.Proofs.YtddihmpiaemadaaGreatDoor
namespace Go.Proofs.YtddihmpiaemadaaGreatDoor
set_option linter.unusedVariables false
set_option linter.unusedSimpArgs false
open Go.RowKit
theorem boxes4 (w : World) (E D C S : Array Value) (te td tc ts : TypeId) :
    Row ((((w.alloc (.cells E te)).alloc (.cells D td)).alloc (.cells C tc)).alloc (.cells S ts)) w.heap.size E.toList ∧ Row ((((w.alloc (.cells E te)).alloc (.cells D td)).alloc (.cells C tc)).alloc (.cells S ts)) (w.heap.size + 1) D.toList ∧ Row ((((w.alloc (.cells E te)).alloc (.cells D td)).alloc (.cells C tc)).alloc (.cells S ts)) (w.heap.size + 2) C.toList ∧ Row ((((w.alloc (.cells E te)).alloc (.cells D td)).alloc (.cells C tc)).alloc (.cells S ts)) (w.heap.size + 3) S.toList ∧ Below w.heap.size w ((((w.alloc (.cells E te)).alloc (.cells D td)).alloc (.cells C tc)).alloc (.cells S ts)) ∧ ((((w.alloc (.cells E te)).alloc (.cells D td)).alloc (.cells C tc)).alloc (.cells S ts)).heap.size = w.heap.size + 4 := by
  obtain ⟨r1, r2, r3, b, s⟩ := boxes3 w E D C te td tc
  have r4 := Row.alloc (((w.alloc (.cells E te)).alloc (.cells D td)).alloc (.cells C tc)) S ts
  have b4 : Below (((w.alloc (.cells E te)).alloc (.cells D td)).alloc (.cells C tc)).heap.size (((w.alloc (.cells E te)).alloc (.cells D td)).alloc (.cells C tc)) ((((w.alloc (.cells E te)).alloc (.cells D td)).alloc (.cells C tc)).alloc (.cells S ts)) := Below.alloc (Below.refl _ _) (Nat.le_refl _) _
  rw [s] at r4
  exact ⟨r1.below b4 (by omega), r2.below b4 (by omega), r3.below b4 (by omega), r4, b.alloc (by omega) _, by simp⟩
set_option maxRecDepth 20000 in
set_option maxHeartbeats 8000000 in
theorem src_i (B Bd Bc : Nat) (e : Evd) (va vb vc vd : Value) (d : Dsc) (x : Value) (l : List Src) (y : Value) (s : Src) (idx P m T : Nat) (w : World) (hs : l[idx]? = some s) (hF : AskF e d l P m T) (h : EvOwn B w e va vb vc vd) (hd : SecOwn Bd w x d.secs) (hl : OwnL Src.cells 3 49 Bc w y l) (hll : l.length ≤ 1048576) :
    Calls Tryz.prog 26 #[evV va vb vc vd, dscV d x, .agg #[y], .agg #[.int .i64 s.kind, .int .i64 s.sector, .int .i64 s.dump]] w fun r w' => r = .returned (.bool (srcC e d l s)) ∧ Below w.heap.size w w' := by
  obtain ⟨z, F⟩ := hF.ev
  obtain ⟨b1, b2, b3, b4, b5, b6⟩ := src_bd hF.cert hs
  obtain ⟨kd, sec, dmp⟩ := s
  dsimp only at b1 b2 b3 b4 b5 b6 ⊢
  obtain ⟨k, rfl⟩ : ∃ k : Nat, sec = (k : Int) := ⟨sec.toNat, by omega⟩
  obtain ⟨dm, rfl⟩ : ∃ k : Nat, dmp = (k : Int) := ⟨dmp.toNat, by omega⟩
  have hTP : T * P ≤ 128 := Nat.mul_le_mul F.t16 F.p8
  have hdn := hF.secs
  have hper := hF.per
  have H0 := Lib.hid h
  have HD0 := Lib.hid hd
  have HL0 := Lib.hid hl
  obtain ⟨A, n, B', kk, C, i, D, j, rfl, rfl, rfl, rfl⟩ := h.shape
  obtain ⟨X, c, rfl, hX⟩ := OwnL.shape hd
  have h1TP : 1 ≤ T * P := Nat.mul_le_mul F.t1 F.p1
  obtain ⟨g, rfl, _, hg⟩ := hX.resolve_left (by intro e; rw [e] at hdn; simp at hdn; omega)
  obtain ⟨A2, c2, rfl, _⟩ := OwnL.shape hl
  obtain ⟨RE, RD, RC, RS, HBZ, zz⟩ := boxes4 w #[.slice A e.ds.length n, .slice B' e.cr.length kk, .slice C e.p.length i, .slice D e.q.length j] #[.int .i64 d.cyl, .int .i64 d.heads, .int .i64 (P : Int), .int .i64 d.size, .slice (some ⟨g, 0, none⟩) (T * P) c] #[.slice A2 l.length c2] #[.int .i64 kd, .int .i64 (k : Int), .int .i64 (dm : Int)] 28 32 35 49
  have HSC := Lib.hid (fun (k : Nat) (s : Sec) (hk : d.secs[k]? = some s) => And.intro (OwnL.cell Sec.len hd hk (j := 0) rfl) (OwnL.cell Sec.len hd hk (j := 1) rfl))
  have HCAP := own_cap hd
  rw [hdn] at HCAP HD0 ⊢
  have hdv : dscV d (.slice (some ⟨g, 0, none⟩) (T * P) c) = .agg #[.int .i64 d.cyl, .int .i64 d.heads, .int .i64 (P : Int), .int .i64 d.size, .slice (some ⟨g, 0, none⟩) (T * P) c] := by rw [← hper]
  rw [hdv]
  have HDV := Lib.hid hdv
  clear hdv h hd hl hX
  go_enter Tryz.func26, Tryz.ntmps26
  go_wp2_with (fail)
  generalize ((((w.alloc (.cells #[.slice A e.ds.length n, .slice B' e.cr.length kk, .slice C e.p.length i, .slice D e.q.length j] 28)).alloc (.cells #[.int .i64 d.cyl, .int .i64 d.heads, .int .i64 (P : Int), .int .i64 d.size, .slice (some ⟨g, 0, none⟩) (T * P) c] 32)).alloc (.cells #[.slice A2 l.length c2] 35)).alloc (.cells #[.int .i64 kd, .int .i64 (k : Int), .int .i64 (dm : Int)] 49)) = w4 at *
  have HRE := Lib.hid RE
  have HRD := Lib.hid RD
  have HRC := Lib.hid RC
  have HRS := Lib.hid RS
  have f0 : ∀ q : Wb w4, q.1.cell? ⟨w.heap.size + 1 + 1 + 1, 1, none⟩ = some (.int .i64 (k : Int)) := fun q => Wb.cell (RS 1 _ rfl) q
  have f1 : ∀ q : Wb w4, q.1.cell? ⟨w.heap.size + 1, 4, none⟩ = some (.slice (some ⟨g, 0, none⟩) (T * P) c) := fun q => Wb.cell (RD 4 _ rfl) q
  clear RE RD RC RS
  generalize hN : T * P = N at *
  by_cases hlt : k < N
  rotate_left
  · have HF := Lib.hid (src_none (e := e) (d := d) (l := l) (s := ⟨kd, (k : Int), (dm : Int)⟩) (List.getElem?_eq_none (by show d.secs.length ≤ k; omega)))
    have hd1 : decide ((k : Int) ≥ (N : Int)) = true := decide_eq_true (by omega)
    have hd2 : decide (N ≤ k) = true := decide_eq_true (by omega)
    refine wp_region_wb (by kernel_rfl) (by kernel_rfl) ?_; (repeat (go_big_quiet_step (first | (go_at_call 45; exact Wb.same (size_sec _ _ _ _ (by omega)))))); refine wpQuiet_nil ?_; rintro w5 ⟨⟨w5', hb5⟩, rfl⟩
    go_wp2_with (fail)
    go_ret
    exact ⟨ret_bool HF.out.symm, HBZ.trans (hb5.mono (by omega))⟩
  · obtain ⟨xs, hxs⟩ : ∃ xs, d.secs[k]? = some xs := ⟨d.secs[k]'(by omega), List.getElem?_eq_getElem (by omega)⟩
    have hd1 : decide ((k : Int) ≥ (N : Int)) = false := decide_eq_false (by omega)
    have hd2 : decide (N ≤ k) = false := decide_eq_false (by omega)
    have hlt' : (k : Int) < (N : Int) := by omega
    obtain ⟨x0, x1⟩ := HSC.out k xs hxs
    rw [Nat.add_zero] at x0
    have f2 : ∀ q : Wb w4, q.1.cell? ⟨g, k * 2 + 1, none⟩ = some (.int .i64 xs.state) := fun q => Wb.cell ((HBZ.cell (p := ⟨g, _, none⟩) hg).trans x1) q
    by_cases hst : xs.state = 1
    rotate_left
    · have HF := Lib.hid (src_st (e := e) (d := d) (l := l) (s := ⟨kd, (k : Int), (dm : Int)⟩) hxs hst)
      have hst2 : (xs.state != 1) = true := by simpa using hst
      clear hxs hst
      refine wp_region_wb (by kernel_rfl) (by kernel_rfl) ?_; (repeat (go_big_quiet_step (first | (go_at_call 45; exact Wb.same (size_sec _ _ _ _ (by omega)))))); refine wpQuiet_nil ?_; rintro w5 ⟨⟨w5', hb5⟩, rfl⟩
      go_wp2_with (fail)
      go_ret
      exact ⟨ret_bool HF.out.symm, HBZ.trans (hb5.mono (by omega))⟩
    · have hst2 : (xs.state != 1) = false := by rw [hst]; rfl
      have HST := Lib.hid hst
      have HXS := Lib.hid hxs
      have HX0 := Lib.hid x0
      have HX1 := Lib.hid x1
      clear hst hxs x0 x1
      refine wp_region_wb (by kernel_rfl) (by kernel_rfl) ?_; (repeat (go_big_quiet_step (first | (go_at_call 45; exact Wb.same (size_sec _ _ _ _ (by omega)))))); refine wpQuiet_nil ?_; rintro w5 ⟨⟨w5', hb5⟩, rfl⟩
      clear f0 f1 f2
      have HCL : Hid (∀ w', Below w4.heap.size w4 w' → Row w' w.heap.size [.slice A e.ds.length n, .slice B' e.cr.length kk, .slice C e.p.length i, .slice D e.q.length j] ∧ Row w' (w.heap.size + 1) [.int .i64 d.cyl, .int .i64 d.heads, .int .i64 (P : Int), .int .i64 d.size, .slice (some ⟨g, 0, none⟩) N c] ∧ Row w' (w.heap.size + 1 + 1) [.slice A2 l.length c2] ∧ Row w' (w.heap.size + 1 + 1 + 1) [.int .i64 kd, .int .i64 (k : Int), .int .i64 (dm : Int)] ∧ w'.cell? ⟨g, k * 2, none⟩ = some (.string xs.data) ∧ w'.cell? ⟨g, k * 2 + 1, none⟩ = some (.int .i64 xs.state) ∧ Below w.heap.size w w') := Lib.hid fun w' hb => by
        have hbw := HBZ.trans (hb.mono (by omega))
        exact ⟨HRE.out.below hb (by omega), HRD.out.below hb (by omega), HRC.out.below hb (by omega), HRS.out.below hb (by omega), (hbw.cell (p := ⟨g, _, none⟩) hg).trans HX0.out, (hbw.cell (p := ⟨g, _, none⟩) hg).trans HX1.out, hbw⟩
      clear HRE HRD HRC HRS
      obtain ⟨R0, R1, R2, R3, x0, x1, B5⟩ := HCL.out w5 hb5
      have d4 := R1 4 _ rfl
      have s1 := R3 1 _ rfl
      have c0 := R0 0 _ rfl
      have c1 := R0 1 _ rfl
      have c2' := R0 2 _ rfl
      have c3 := R0 3 _ rfl
      clear R0 R1 R2 R3
      have hm2 := F.m2
      have hmd : xs.data.size ≤ 4096 := by rw [hF.sm xs (List.mem_of_getElem? HXS.out)]; omega
      have hcrk : k < e.cr.length := by rw [F.crl, hN]; exact hlt
      have hcr2 : e.cr.length ≤ 1048576 := by rw [F.crl, hN]; omega
      have HFT := Lib.hid (fits_i B e _ _ _ _ k xs.data w5 (H0.out.below B5) hcrk hcr2 hmd)
      have HNF := Lib.hid (fun hh => src_nofit (e := e) (d := d) (l := l) (s := ⟨kd, (k : Int), (dm : Int)⟩) HXS.out hh)
      have HGO := Lib.hid (fun hh => src_go (e := e) (d := d) (l := l) (s := ⟨kd, (k : Int), (dm : Int)⟩) HXS.out HST.out hh)
      cases hft : fitB e.cr k xs.data
      · have HF := Lib.hid (HNF.out hft)
        rw [hft] at HFT
        go_wp2_with (fail)
        refine HFT.out.mono ?_; rintro r w6 ⟨rfl, hb6⟩
        go_wp2_with (fail)
        go_ret
        exact ⟨ret_bool HF.out.symm, B5.trans (hb6.mono B5.size)⟩
      · have HG := Lib.hid (HGO.out hft)
        rw [hft] at HFT
        go_wp2_with (fail)
        refine HFT.out.mono ?_; rintro r w6 ⟨rfl, hb6⟩
        have hb46 := hb5.trans (hb6.mono hb5.size)
        obtain ⟨R0, R1, R2, R3, x0', x1', B6⟩ := HCL.out w6 hb46
        have z6 := B6.size
        clear d4 s1 c0 c1 c2' c3 x0 x1 HNF HGO HFT
        have s0 := R3 0 _ rfl
        have s1 := R3 1 _ rfl
        have s2 := R3 2 _ rfl
        have c0 := R0 0 _ rfl
        have c1 := R0 1 _ rfl
        have c2' := R0 2 _ rfl
        have c3 := R0 3 _ rfl
        have hkds : ∀ dd ∈ e.ds, k < dd.secs.length := fun dd hm => by rw [F.dss dd hm, hN]; exact hlt
        have hdm5 := F.d5
        obtain rfl | rfl | rfl | rfl : kd = 1 ∨ kd = 2 ∨ kd = 3 ∨ kd = 4 := by omega
        · have hdsl : e.ds.length ≤ 1048576 := by omega
          by_cases hdl : dm < e.ds.length
          rotate_left
          · have HF : Hid (srcC e d l ⟨1, (k : Int), (dm : Int)⟩ = false) := Lib.hid (HG.out.trans (by
              show (match e.ds[dm]? with | none => false | some y => _) = false
              rw [List.getElem?_eq_none (by omega)]))
            have hd3 : decide (dm < e.ds.length) = false := decide_eq_false hdl
            have hd4 : decide ((dm : Int) < (e.ds.length : Int)) = false := decide_eq_false (by omega)
            have f0 : ∀ q : Wb w6, q.1.cell? ⟨w.heap.size + 1 + 1 + 1, 2, none⟩ = some (.int .i64 (dm : Int)) := fun q => Wb.cell s2 q
            have f1 : ∀ q : Wb w6, q.1.cell? ⟨w.heap.size, 0, none⟩ = some (.slice A e.ds.length n) := fun q => Wb.cell c0 q
            clear hdl
            go_wp2_with (fail)
            refine wp_region_wb (by kernel_rfl) (by kernel_rfl) ?_; (repeat (go_big_quiet_step (first | (go_at_call 60; exact Wb.same (size_dsc _ _ _ _ hdsl))))); refine wpQuiet_nil ?_; rintro w7 ⟨⟨w7', hb7⟩, rfl⟩
            go_wp2_with (fail)
            go_ret
            exact ⟨ret_bool HF.out.symm, B6.trans (hb7.mono z6)⟩
          · obtain ⟨zd, hzd⟩ : ∃ zd, e.ds[dm]? = some zd := ⟨e.ds[dm], List.getElem?_eq_getElem hdl⟩
            have hkz := hkds zd (List.mem_of_getElem? hzd)
            obtain ⟨qs, hqs⟩ : ∃ qs, zd.secs[k]? = some qs := ⟨zd.secs[k], List.getElem?_eq_getElem hkz⟩
            have HF : Hid (srcC e d l ⟨1, (k : Int), (dm : Int)⟩ = (qs.data.toList == xs.data.toList && qs.state == 1)) := Lib.hid (HG.out.trans (by
              show (match e.ds[dm]? with | none => false | some y => (match y.secs[k]? with | none => false | some z => z.data.toList == xs.data.toList && z.state == 1)) = _
              rw [hzd]; show (match zd.secs[k]? with | none => false | some z => z.data.toList == xs.data.toList && z.state == 1) = _
              rw [hqs]))
            obtain ⟨A', c', e', hA'⟩ := (H0.out.below B6).ds
            injection e' with e1 _ e2
            subst e1 e2
            obtain ⟨gz, rfl, _, hgz, hcz⟩ := hA'.resolve_left (by intro h0; rw [h0] at hdl; simp at hdl)
            obtain ⟨bv, o1, o2⟩ := hcz dm zd hzd
            obtain ⟨A3, c3', rfl, hA3⟩ := OwnL.shape o1
            obtain ⟨g3, rfl, _, hg3⟩ := hA3.resolve_left (by intro h0; rw [h0] at hkz; simp at hkz)
            have f0 : ∀ q : Wb w6, q.1.cell? ⟨w.heap.size + 1 + 1 + 1, 2, none⟩ = some (.int .i64 (dm : Int)) := fun q => Wb.cell s2 q
            have f1 : ∀ q : Wb w6, q.1.cell? ⟨w.heap.size, 0, none⟩ = some (.slice (some ⟨gz, 0, none⟩) e.ds.length n) := fun q => Wb.cell c0 q
            have f2 : ∀ q : Wb w6, q.1.cell? ⟨gz, dm * 5 + 4, none⟩ = some (.slice (some ⟨g3, 0, none⟩) zd.secs.length c3') := fun q => Wb.cell (o2 4 _ rfl) q
            have f3 : ∀ q : Wb w6, q.1.cell? ⟨g3, k * 2, none⟩ = some (.string qs.data) := fun q => Wb.cell (OwnL.cell Sec.len o1 hqs (j := 0) rfl) q
            have f4 : ∀ q : Wb w6, q.1.cell? ⟨g3, k * 2 + 1, none⟩ = some (.int .i64 qs.state) := fun q => Wb.cell (OwnL.cell Sec.len o1 hqs (j := 1) rfl) q
            have f5 : ∀ q : Wb w6, q.1.cell? ⟨w.heap.size + 1 + 1 + 1, 1, none⟩ = some (.int .i64 (k : Int)) := fun q => Wb.cell s1 q
            have hd3 : decide (dm < e.ds.length) = true := decide_eq_true hdl
            have hd4 : decide ((dm : Int) < (e.ds.length : Int)) = true := decide_eq_true (by omega)
            have hkz' : (k : Int) < (zd.secs.length : Int) := by omega
            have hdl' : (dm : Int) < (e.ds.length : Int) := by omega
            clear hzd hqs hA' hcz o1 o2 hA3
            cases h1 : (qs.data.toList == xs.data.toList) <;> cases h2 : (qs.state == 1)
            all_goals rw [h1, h2] at HF
            all_goals
              go_wp2_with (fail)
              refine wp_region_wb (by kernel_rfl) (by kernel_rfl) ?_; (repeat (go_big_quiet_step (first | (go_at_call 60; exact Wb.same (size_dsc _ _ _ _ hdsl))))); refine wpQuiet_nil ?_; rintro w7 ⟨⟨w7', hb7⟩, rfl⟩
              go_wp2_with (fail)
              go_ret
              exact ⟨ret_bool HF.out.symm, B6.trans (hb7.mono z6)⟩
        · have HR := Lib.hid (rd_i B e _ _ _ _ k w6 (H0.out.below B6) (by omega) hkds)
          have HRZ := rd_size F.dm hkds
          have hrl := rdF_len k e.ds
          have HF : Hid (srcC e d l ⟨2, (k : Int), (dm : Int)⟩ = ((voteE (rdF k e.ds)).2 && (voteE (rdF k e.ds)).1.toList == xs.data.toList)) := Lib.hid HG.out
          generalize rdF k e.ds = R at *
          have HRZ' := Lib.hid HRZ
          clear HRZ
          go_wp2_with (fail)
          refine HR.out.mono ?_; rintro r w7 ⟨v7, rfl, ho7, hb7⟩
          have HV := Lib.hid (votd_i _ R _ w7 ho7 (by omega) m HRZ'.out (by omega))
          obtain ⟨A7, k7, rfl, _⟩ := OwnL.shape ho7
          have B8 := B6.trans (hb7.mono z6)
          clear ho7
          generalize voteE R = V at *
          cases hv : V.2
          · rw [hv] at HV HF
            go_wp2_with (fail)
            refine HV.out.mono ?_; rintro r w8 ⟨rfl, hb8⟩
            go_wp2_with (fail)
            go_ret
            exact ⟨ret_bool (by rw [HF.out]; rfl), B8.trans (hb8.mono B8.size)⟩
          · rw [hv] at HV HF
            cases he : (V.1.toList == xs.data.toList)
            · rw [he] at HF
              go_wp2_with (fail)
              refine HV.out.mono ?_; rintro r w8 ⟨rfl, hb8⟩
              go_wp2_with (fail)
              go_ret
              exact ⟨ret_bool (by rw [HF.out]; rfl), B8.trans (hb8.mono B8.size)⟩
            · rw [he] at HF
              go_wp2_with (fail)
              refine HV.out.mono ?_; rintro r w8 ⟨rfl, hb8⟩
              go_wp2_with (fail)
              go_ret
              exact ⟨ret_bool (by rw [HF.out]; rfl), B8.trans (hb8.mono B8.size)⟩
        · have HV := Lib.hid (slv_i B e _ _ _ _ k w6 (H0.out.below B6) (by omega) hkds hcrk hcr2 m F.dm (by omega))
          have HF : Hid (srcC e d l ⟨3, (k : Int), (dm : Int)⟩ = ((slvE e k).2 && (slvE e k).1.toList == xs.data.toList)) := Lib.hid HG.out
          generalize slvE e k = V at *
          cases hv : V.2
          · rw [hv] at HV HF
            go_wp2_with (fail)
            refine HV.out.mono ?_; rintro r w8 ⟨rfl, hb8⟩
            go_wp2_with (fail)
            go_ret
            exact ⟨ret_bool (by rw [HF.out]; rfl), B6.trans (hb8.mono z6)⟩
          · rw [hv] at HV HF
            cases he : (V.1.toList == xs.data.toList)
            · rw [he] at HF
              go_wp2_with (fail)
              refine HV.out.mono ?_; rintro r w8 ⟨rfl, hb8⟩
              go_wp2_with (fail)
              go_ret
              exact ⟨ret_bool (by rw [HF.out]; rfl), B6.trans (hb8.mono z6)⟩
            · rw [he] at HF
              go_wp2_with (fail)
              refine HV.out.mono ?_; rintro r w8 ⟨rfl, hb8⟩
              go_wp2_with (fail)
              go_ret
              exact ⟨ret_bool (by rw [HF.out]; rfl), B6.trans (hb8.mono z6)⟩
        · have HF : Hid (srcC e d l ⟨4, (k : Int), (dm : Int)⟩ = parC e d l (k / P)) := Lib.hid (HG.out.trans (by show parC e d l (k / d.per.toNat) = _; rw [hper]; rfl))
          have hp1 := F.p1
          have hp8 := F.p8
          have ht16 := F.t16
          have hdm := Nat.div_add_mod k P
          have hml := Nat.mod_lt k (show 0 < P by omega)
          have hq1 : (k : Int).tdiv (P : Int) = ((k / P : Nat) : Int) := by rw [Int.tdiv_eq_ediv_of_nonneg (by omega)]; rfl
          have hq2 : (k : Int) / (P : Int) = ((k / P : Nat) : Int) := rfl
          have htT : k / P < T := Nat.div_lt_of_lt_mul (by rw [Nat.mul_comm, hN]; exact hlt)
          obtain ⟨pt, hpt⟩ : ∃ s, e.p[k / P]? = some s := ⟨e.p[k / P]'(by rw [F.pl]; exact htT), List.getElem?_eq_getElem _⟩
          obtain ⟨qt, hqt⟩ : ∃ s, e.q[k / P]? = some s := ⟨e.q[k / P]'(by rw [F.ql]; exact htT), List.getElem?_eq_getElem _⟩
          have hpz := F.ps pt (List.mem_of_getElem? hpt)
          have hqz := F.qs qt (List.mem_of_getElem? hqt)
          have hoP : k / P * P + P ≤ d.secs.length := by
            rw [hdn, ← hN]
            have := Nat.mul_le_mul_right P (show k / P + 1 ≤ T by omega)
            rw [Nat.add_mul, Nat.one_mul] at this; exact this
          have HP := Lib.hid (fun (w' : World) (hb : Below w.heap.size w w') => par_i B Bd Bc e _ _ _ _ d (.slice (some ⟨g, 0, none⟩) N c) l _ (k / P) P (k / P * P) w' (H0.out.below hb) (OwnL.below HD0.out hb) (OwnL.below HL0.out hb) hper hp1 (by omega) rfl hoP (by omega) hll (by omega) pt qt hpt hqt (by omega) (by omega))
          rw [HDV.out] at HP
          generalize k / P = tt at *
          have f0 : ∀ q : Wb w6, q.1.cell? ⟨w.heap.size, 0, none⟩ = _ := fun q => Wb.cell c0 q
          have f1 : ∀ q : Wb w6, q.1.cell? ⟨w.heap.size, 1, none⟩ = _ := fun q => Wb.cell c1 q
          have f2 : ∀ q : Wb w6, q.1.cell? ⟨w.heap.size, 2, none⟩ = _ := fun q => Wb.cell c2' q
          have f3 : ∀ q : Wb w6, q.1.cell? ⟨w.heap.size, 3, none⟩ = _ := fun q => Wb.cell c3 q
          have f4 : ∀ q : Wb w6, q.1.cell? ⟨w.heap.size + 1, 0, none⟩ = _ := fun q => Wb.cell (R1 0 _ rfl) q
          have f5 : ∀ q : Wb w6, q.1.cell? ⟨w.heap.size + 1, 1, none⟩ = _ := fun q => Wb.cell (R1 1 _ rfl) q
          have f6 : ∀ q : Wb w6, q.1.cell? ⟨w.heap.size + 1, 2, none⟩ = _ := fun q => Wb.cell (R1 2 _ rfl) q
          have f7 : ∀ q : Wb w6, q.1.cell? ⟨w.heap.size + 1, 3, none⟩ = _ := fun q => Wb.cell (R1 3 _ rfl) q
          have f8 : ∀ q : Wb w6, q.1.cell? ⟨w.heap.size + 1, 4, none⟩ = _ := fun q => Wb.cell (R1 4 _ rfl) q
          have f9 : ∀ q : Wb w6, q.1.cell? ⟨w.heap.size + 1 + 1, 0, none⟩ = _ := fun q => Wb.cell (R2 0 _ rfl) q
          have f10 : ∀ q : Wb w6, q.1.cell? ⟨w.heap.size + 1 + 1 + 1, 1, none⟩ = _ := fun q => Wb.cell s1 q
          have HPW : ∀ q : Wb w6, Calls Tryz.prog 64 #[evV (.slice A e.ds.length n) (.slice B' e.cr.length kk) (.slice C e.p.length i) (.slice D e.q.length j), .agg #[.int .i64 d.cyl, .int .i64 d.heads, .int .i64 (P : Int), .int .i64 d.size, .slice (some ⟨g, 0, none⟩) N c], .agg #[.slice A2 l.length c2], .int .i64 (tt : Int)] q.1 fun r w' => r = .returned (.bool (parC e d l tt)) ∧ Below q.1.heap.size q.1 w' := fun q => HP.out q.1 (B6.trans (q.2.mono z6))
          have hP0 : ((P : Int) == 0) = false := by rw [beq_eq_false_iff_ne]; omega
          have hP00 : ¬ ((P : Int) = 0) := by omega
          clear hpt hqt hdn hdm
          go_wp2_with (fail)
          refine wp_region_wb (by kernel_rfl) (by kernel_rfl) ?_; (repeat (go_big_quiet_step (first | (go_at_call 64; exact Wb.calls (HPW _))))); refine wpQuiet_nil ?_; rintro w7 ⟨⟨w7', hb7⟩, rfl⟩
          go_wp2_with (fail)
          go_ret
          exact ⟨ret_bool HF.out.symm, B6.trans (hb7.mono z6)⟩
end Go.Proofs.YtddihmpiaemadaaGreatDoor
