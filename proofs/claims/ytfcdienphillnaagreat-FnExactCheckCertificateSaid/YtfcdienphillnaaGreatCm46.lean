/- CheckCertificate, the reference: the walk. -/
import Derived.Test.YtfcdienphillnaaGreatCm45
namespace Go.Proofs.YtfcdienphillnaaGreat
set_option linter.unusedVariables false
set_option linter.unusedSimpArgs false
open Go.RowKit
set_option maxRecDepth 20000 in
set_option maxHeartbeats 8000000 in
theorem crt_s (B Bd Bc : Nat) (e : Evd) (va vb vc vd : Value) (d : Dsc) (x : Value) (l : List Src) (y : Value) (w : World) (h : EvOwn B w e va vb vc vd) (hs : EvSmall e) (hd : SecOwn Bd w x d.secs) (hn : d.secs.length ≤ 1048576) (hm : ∀ s ∈ d.secs, s.data.size ≤ maxLen) (hl : OwnL Src.cells 3 83 Bc w y l) (hll : l.length ≤ 1048576) :
    Calls Tryz.prog 19 #[evV va vb vc vd, dscV d x, .agg #[y]] w fun r w' => r = .returned (.bool (chkC e d l)) ∧ Below w.heap.size w w' := by
  have H0 := Lib.hid h
  have HD0 := Lib.hid hd
  have HL0 := Lib.hid hl
  obtain ⟨A, n, B', kk, C, i, D, j, rfl, rfl, rfl, rfl⟩ := h.shape
  obtain ⟨X, c, rfl, hX⟩ := OwnL.shape hd
  obtain ⟨A2, c2, rfl, hA2⟩ := OwnL.shape hl
  obtain ⟨RE, RD, RC, HBZ, zz⟩ := boxes3 w #[.slice A e.ds.length n, .slice B' e.cr.length kk, .slice C e.p.length i, .slice D e.q.length j] #[.int .i64 d.cyl, .int .i64 d.heads, .int .i64 d.per, .int .i64 d.size, .slice X d.secs.length c] #[.slice A2 l.length c2] 39 43 47
  have HCW : Hid (∀ w', Below ((((w.alloc (.cells #[.slice A e.ds.length n, .slice B' e.cr.length kk, .slice C e.p.length i, .slice D e.q.length j] 39)).alloc (.cells #[.int .i64 d.cyl, .int .i64 d.heads, .int .i64 d.per, .int .i64 d.size, .slice X d.secs.length c] 43)).alloc (.cells #[.slice A2 l.length c2] 47))).heap.size (((w.alloc (.cells #[.slice A e.ds.length n, .slice B' e.cr.length kk, .slice C e.p.length i, .slice D e.q.length j] 39)).alloc (.cells #[.int .i64 d.cyl, .int .i64 d.heads, .int .i64 d.per, .int .i64 d.size, .slice X d.secs.length c] 43)).alloc (.cells #[.slice A2 l.length c2] 47)) w' → EvBox w.heap.size w' (.slice A e.ds.length n) (.slice B' e.cr.length kk) (.slice C e.p.length i) (.slice D e.q.length j) ∧ Row w' (w.heap.size + 1) (dscL d (.slice X d.secs.length c)) ∧ w'.cell? ⟨w.heap.size + 1 + 1, 0, none⟩ = some (.slice A2 l.length c2) ∧ SrcAt w' A2 l ∧ EvOwn B w' e (.slice A e.ds.length n) (.slice B' e.cr.length kk) (.slice C e.p.length i) (.slice D e.q.length j) ∧ SecOwn Bd w' (.slice X d.secs.length c) d.secs ∧ Below w.heap.size w w') := Lib.hid fun w' hb => by
    have hbw := HBZ.trans (hb.mono (by rw [zz]; omega))
    have re := RE.below hb (by rw [zz]; omega)
    exact ⟨⟨re 0 _ rfl, re 1 _ rfl, re 2 _ rfl, re 3 _ rfl⟩, RD.below hb (by rw [zz]; omega), (RC.below hb (by rw [zz]; omega)) 0 _ rfl, SrcAt.of (OwnL.below HL0.out hbw) rfl, H0.out.below hbw, OwnL.below HD0.out hbw, hbw⟩
  clear h hd hl RE RD RC
  go_enter Tryz.func19, Tryz.ntmps19
  go_wp2_with (fail)
  generalize (((w.alloc (.cells #[.slice A e.ds.length n, .slice B' e.cr.length kk, .slice C e.p.length i, .slice D e.q.length j] 39)).alloc (.cells #[.int .i64 d.cyl, .int .i64 d.heads, .int .i64 d.per, .int .i64 d.size, .slice X d.secs.length c] 43)).alloc (.cells #[.slice A2 l.length c2] 47)) = w3 at *
  obtain ⟨E1, E2, E3, E4, E5, E6, E7⟩ := HCW.out w3 (Below.refl _ _)
  have HV := Lib.hid (asks_s B Bd w.heap.size (w.heap.size + 1) (w.heap.size + 1 + 1) e _ _ _ _ d X c l A2 c2 w3 E1 E5 hs E2 (by omega) E6 hn hm E3 E4 hll)
  clear E1 E2 E3 E4 E5 E6 E7
  cases hab : askB e d l
  · have HF := Lib.hid (ck_no1 hab)
    rw [hab] at HV
    refine HV.out.mono ?_; rintro r w4 ⟨rfl, hb4⟩
    go_wp2_with (fail)
    go_ret
    exact ⟨ret_bool HF.out.symm, HBZ.trans (hb4.mono (by omega))⟩
  · obtain ⟨P, m, T, F⟩ := ask_f hab
    rw [hab] at HV
    have hTP : 1 ≤ T * P := by obtain ⟨z, E⟩ := F.ev; exact Nat.mul_le_mul E.t1 E.p1
    have hdn := F.secs
    obtain ⟨g, rfl, _, hg⟩ := hX.resolve_left (by intro e; rw [e] at hdn; simp at hdn; omega)
    have HSC := Lib.hid (fun (k : Nat) (s : Sec) (hk : d.secs[k]? = some s) => OwnL.cell Sec.len HD0.out hk (j := 1) rfl)
    have HLC := Lib.hid (fun (g : Nat) (hg : A2 = some ⟨g, 0, none⟩) (k : Nat) (s : Src) (j : Nat) (u : Value) (hk : l[k]? = some s) (hu : s.cells[j]? = some u) => (by subst hg; exact OwnL.cell Src.len HL0.out hk hu : w.cell? ⟨g, k * 3 + j, none⟩ = some u))
    have HYES := Lib.hid (fun h1 h2 => ck_yes (e := e) (d := d) (l := l) hab h1 h2)
    have HCERT := Lib.hid F.cert
    clear hdn hX
    refine HV.out.mono ?_; rintro r w4 ⟨rfl, hb4⟩
    go_wp2_with (fail)
    go_loopw [8, 7] (fun ii mm wr => ∃ k : Nat, k ≤ d.secs.length ∧ ii = .int .i64 k ∧ mm = .int .i64 (srcN l k : Nat) ∧ Below w3.heap.size w3 wr ∧ Hid (∀ j, j < k → covB d l j = true)) (fun ii _ _ => d.secs.length - (intOf ii).toNat)
    case atStart => exact ⟨0, by omega, rfl, by rw [srcN_zero HCERT.out]; rfl, hb4, Lib.hid fun j hj => by omega⟩
    case round =>
      obtain ⟨k, hk, rfl, rfl, hb, HM⟩ := hrel
      have zr := hb.size
      obtain ⟨E1, E2, E3, E4, E5, E6, E7⟩ := HCW.out wr hb
      have hle := srcN_le l k
      have d4 := E2 4 _ rfl
      by_cases hlt : k < d.secs.length
      · obtain ⟨s, hsk⟩ : ∃ s, d.secs[k]? = some s := ⟨d.secs[k], List.getElem?_eq_getElem hlt⟩
        have y1 := (E7.cell (p := ⟨g, _, none⟩) hg).trans (HSC.out k s hsk)
        have HKD := Lib.hid (kind_s (w.heap.size + 1 + 1) c2 A2 l (k : Int) wr E3 E4 hll)
        have HCV := Lib.hid (cov_at (l := l) hsk)
        have HBAD := Lib.hid (fun hh => ck_no2 (e := e) (l := l) hlt hh)
        have HSY := Lib.hid (fun hh => srcN_yes HCERT.out (k := k) hh)
        have HSN := Lib.hid (fun hh => srcN_no HCERT.out (k := k) hh)
        have hkb := (kinN_cert HCERT.out (k : Int)).1
        have BW := E7
        clear E1 E2 E3 E4 E5 E6 E7 hsk
        generalize kinN (k : Int) l = kd at *
        generalize srcN l k = mn at *
        generalize hmm : srcN l (k + 1) = mn1 at *
        have HMM := Lib.hid hmm
        clear hmm
        have hst : s.state = 1 ∨ s.state = 3 ∨ (s.state ≠ 1 ∧ s.state ≠ 3) := by omega
        by_cases h0 : 0 < kd
        · have hd1 : decide (0 < kd) = true := decide_eq_true h0
          have hd2 : decide (kd > 0) = true := decide_eq_true h0
          have hne : (kd != 0) = true := by rw [bne_iff_ne]; omega
          have hmn := HSY.out h0
          rcases hst with h1 | h1 | ⟨h1, h3⟩
          · have hx1 : (s.state != 1) = false := by rw [h1]; rfl
            have hx2 : (s.state == 1) = true := by rw [h1]; rfl
            have hx3 : (s.state != 3) = true := by rw [h1]; rfl
            have hx4 : (s.state == 3) = false := by rw [h1]; rfl
            have HN : Hid (∀ j, j < k + 1 → covB d l j = true) := Lib.hid fun j hj => by
              by_cases e : j = k
              · subst e; rw [HCV.out]; unfold cvS; rw [hne, h1]; rfl
              · exact HM.out j (by omega)
            subst hmn
            clear h1 hne h0
            go_wp2_with (fail)
            refine HKD.out.mono ?_; rintro r w6 ⟨rfl, hb6⟩
            go_wp2_with (fail)
            go_roundw
            case rel => exact ⟨k + 1, by omega, by go_num, by rw [HMM.out]; go_num, hb.trans (hb6.mono zr), HN⟩
            case measure => simp [intOf]; omega
          · have hx1 : (s.state != 1) = true := by rw [h1]; rfl
            have hx2 : (s.state == 1) = false := by rw [h1]; rfl
            have hx3 : (s.state != 3) = false := by rw [h1]; rfl
            have hx4 : (s.state == 3) = true := by rw [h1]; rfl
            have HF := Lib.hid (HBAD.out (by rw [HCV.out]; unfold cvS; rw [hne, hx2]; simp))
            clear h1 hmn hne h0
            go_wp2_with (fail)
            refine HKD.out.mono ?_; rintro r w6 ⟨rfl, hb6⟩
            go_wp2_with (fail)
            go_ret
            exact ⟨ret_bool HF.out.symm, BW.trans (hb6.mono BW.size)⟩
          · have hx1 : (s.state != 1) = true := by simpa using h1
            have hx2 : (s.state == 1) = false := by simpa using h1
            have hx3 : (s.state != 3) = true := by simpa using h3
            have hx4 : (s.state == 3) = false := by simpa using h3
            have HF := Lib.hid (HBAD.out (by rw [HCV.out]; unfold cvS; rw [beq_eq_false_iff_ne.2 h1, beq_eq_false_iff_ne.2 h3]; rfl))
            clear h1 h3 hmn hne h0
            go_wp2_with (fail)
            refine HKD.out.mono ?_; rintro r w6 ⟨rfl, hb6⟩
            go_wp2_with (fail)
            go_ret
            exact ⟨ret_bool HF.out.symm, BW.trans (hb6.mono BW.size)⟩
        · have hd1 : decide (0 < kd) = false := decide_eq_false h0
          have hd2 : decide (kd > 0) = false := decide_eq_false h0
          have hne : (kd != 0) = false := by rw [bne_eq_false_iff_eq]; omega
          have hmn := HSN.out h0
          rcases hst with h1 | h1 | ⟨h1, h3⟩
          · have hx1 : (s.state != 1) = false := by rw [h1]; rfl
            have hx2 : (s.state == 1) = true := by rw [h1]; rfl
            have hx3 : (s.state != 3) = true := by rw [h1]; rfl
            have hx4 : (s.state == 3) = false := by rw [h1]; rfl
            have HF := Lib.hid (HBAD.out (by rw [HCV.out]; unfold cvS; rw [hne, hx2]; simp))
            clear h1 hmn hne h0
            go_wp2_with (fail)
            refine HKD.out.mono ?_; rintro r w6 ⟨rfl, hb6⟩
            go_wp2_with (fail)
            go_ret
            exact ⟨ret_bool HF.out.symm, BW.trans (hb6.mono BW.size)⟩
          · have hx1 : (s.state != 1) = true := by rw [h1]; rfl
            have hx2 : (s.state == 1) = false := by rw [h1]; rfl
            have hx3 : (s.state != 3) = false := by rw [h1]; rfl
            have hx4 : (s.state == 3) = true := by rw [h1]; rfl
            have HN : Hid (∀ j, j < k + 1 → covB d l j = true) := Lib.hid fun j hj => by
              by_cases e : j = k
              · subst e; rw [HCV.out]; unfold cvS; rw [hne, h1]; rfl
              · exact HM.out j (by omega)
            subst hmn
            clear h1 hne h0
            go_wp2_with (fail)
            refine HKD.out.mono ?_; rintro r w6 ⟨rfl, hb6⟩
            go_wp2_with (fail)
            go_roundw
            case rel => exact ⟨k + 1, by omega, by go_num, by rw [HMM.out], hb.trans (hb6.mono zr), HN⟩
            case measure => simp [intOf]; omega
          · have hx1 : (s.state != 1) = true := by simpa using h1
            have hx2 : (s.state == 1) = false := by simpa using h1
            have hx3 : (s.state != 3) = true := by simpa using h3
            have hx4 : (s.state == 3) = false := by simpa using h3
            have HF := Lib.hid (HBAD.out (by rw [HCV.out]; unfold cvS; rw [beq_eq_false_iff_ne.2 h1, beq_eq_false_iff_ne.2 h3]; rfl))
            clear h1 h3 hmn hne h0
            go_wp2_with (fail)
            refine HKD.out.mono ?_; rintro r w6 ⟨rfl, hb6⟩
            go_wp2_with (fail)
            go_ret
            exact ⟨ret_bool HF.out.symm, BW.trans (hb6.mono BW.size)⟩
      · have hkd : k = d.secs.length := by omega
        have HCV := Lib.hid (fun j (hj : j < d.secs.length) => HM.out j (by omega))
        have k0 := E3
        have HMB := Lib.hid (fun hh => ck_many (e := e) (d := d) HCERT.out hh)
        rw [← hkd] at HMB
        have BW := E7
        clear E1 E2 E3 E4 E5 E6 E7
        by_cases hmany : srcN l k = l.length
        rotate_left
        · have HF := Lib.hid (HMB.out hmany)
          generalize srcN l k = mn at *
          have hq : ((mn : Int) != (l.length : Int)) = true := by rw [bne_iff_ne]; omega
          clear hmany hkd
          go_wp2_with (fail)
          go_ret
          exact ⟨ret_bool HF.out.symm, BW⟩
        · generalize srcN l k = mn at *
          have hq : ((mn : Int) != (l.length : Int)) = false := by rw [bne_eq_false_iff_eq]; omega
          clear hmany hkd
          go_wp2_with (fail)
          go_loopw [11] (fun ii wx => ∃ q : Nat, q ≤ l.length ∧ ii = .int .i64 q ∧ Below w3.heap.size w3 wx ∧ Hid (∀ (j : Nat) (s : Src), j < q → l[j]? = some s → srcC e d l s = true)) (fun ii _ => l.length - (intOf ii).toNat)
          case atStart => exact ⟨0, by omega, rfl, hb, Lib.hid fun j s hj => by omega⟩
          case round =>
            clear k0 d4 BW
            obtain ⟨q, hq, rfl, hbx, HS⟩ := hrel
            have zx := hbx.size
            obtain ⟨E1, E2, E3, E4, E5, E6, E7⟩ := HCW.out wr hbx
            by_cases hltq : q < l.length
            · obtain ⟨s, hsq⟩ : ∃ s, l[q]? = some s := ⟨l[q], List.getElem?_eq_getElem hltq⟩
              obtain ⟨ga, rfl, _, hga⟩ := hA2.resolve_left (by intro h0; rw [h0] at hltq; simp at hltq)
              have y0 := (E7.cell (p := ⟨ga, _, none⟩) hga).trans (HLC.out ga rfl q s 0 _ hsq rfl)
              have y1 := (E7.cell (p := ⟨ga, _, none⟩) hga).trans (HLC.out ga rfl q s 1 _ hsq rfl)
              have y2 := (E7.cell (p := ⟨ga, _, none⟩) hga).trans (HLC.out ga rfl q s 2 _ hsq rfl)
              rw [Nat.add_zero] at y0
              have HSI := Lib.hid (src_s B Bd w.heap.size (w.heap.size + 1) (w.heap.size + 1 + 1) e _ _ _ _ d _ l _ c2 s q P m T wr hsq F E1 E5 E2 (by omega) E6 E3 E4 hll)
              have HBAD := Lib.hid (fun hh => ck_no3 (e := e) (d := d) (List.mem_of_getElem? hsq) hh)
              have HSQ := Lib.hid hsq
              have G7 := E7
              clear E1 E2 E4 E5 E6 E7 hsq
              cases hsc : srcC e d l s
              · have HF := Lib.hid (HBAD.out hsc)
                rw [hsc] at HSI
                go_wp2_with (fail)
                refine HSI.out.mono ?_; rintro r w6 ⟨rfl, hb6⟩
                go_wp2_with (fail)
                go_ret
                exact ⟨ret_bool HF.out.symm, G7.trans (hb6.mono G7.size)⟩
              · have HN : Hid (∀ (j : Nat) (s : Src), j < q + 1 → l[j]? = some s → srcC e d l s = true) := Lib.hid fun j t hj ht => by
                  by_cases e : j = q
                  · subst e
                    have := HSQ.out
                    rw [ht] at this
                    obtain rfl := Option.some.inj this
                    exact hsc
                  · exact HS.out j t (by omega) ht
                rw [hsc] at HSI
                go_wp2_with (fail)
                refine HSI.out.mono ?_; rintro r w6 ⟨rfl, hb6⟩
                go_wp2_with (fail)
                go_roundw
                case rel => exact ⟨q + 1, by omega, by go_num, hbx.trans (hb6.mono zx), HN⟩
                case measure => simp [intOf]; omega
            · have HF := Lib.hid (HYES.out HCV.out (fun j s hs => HS.out j s (by have := (List.getElem?_eq_some_iff.1 hs).1; omega) hs))
              clear E1 E2 E4 E5 E6
              go_wp2_with (fail)
              go_ret
              exact ⟨ret_bool HF.out.symm, E7⟩
end Go.Proofs.YtfcdienphillnaaGreat
