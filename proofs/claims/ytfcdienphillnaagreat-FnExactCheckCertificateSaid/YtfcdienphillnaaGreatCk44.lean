/- A source checked, the reference: the walk. CheckSource, the reference: the walk. The laws over evidence, a disc and a certificate: shared parts. -/
import Derived.Test.YtfcdienphillnaaGreatCk41
import Derived.Test.YtfcdienphillnaaGreatCk43
import Derived.Test.YtfcdienphillnaaGreatCk42
import Derived.Test.YtfcdienphillnaaGreatCk32
import Derived.Test.YtfcdienphillnaaGreatCk02
namespace Go.Proofs.YtfcdienphillnaaGreat
set_option linter.unusedVariables false
set_option linter.unusedSimpArgs false
open Go.RowKit
set_option maxRecDepth 20000 in
set_option maxHeartbeats 8000000 in
theorem src_s (B Bd gb gd gc : Nat) (e : Evd) (va vb vc vd : Value) (d : Dsc) (x : Value) (l : List Src) (A2 : Option Addr) (c2 : Nat) (s : Src) (idx P m T : Nat) (w : World) (hs : l[idx]? = some s) (hF : AskF e d l P m T) (hx : EvBox gb w va vb vc vd) (h : EvOwn B w e va vb vc vd) (hdx : Row w gd (dscL d x)) (hgd : gd < w.heap.size) (hd : SecOwn Bd w x d.secs)
    (hcb : w.cell? ⟨gc, 0, none⟩ = some (.slice A2 l.length c2)) (hA2 : SrcAt w A2 l) (hll : l.length ≤ 1048576) :
    Calls Tryz.prog 44 #[.pointer (some ⟨gb, 0, none⟩), .pointer (some ⟨gd, 0, none⟩), .pointer (some ⟨gc, 0, none⟩), .agg #[.int .i64 s.kind, .int .i64 s.sector, .int .i64 s.dump]] w fun r w' => r = .returned (.bool (srcC e d l s)) ∧ Below w.heap.size w w' := by
  obtain ⟨z, F⟩ := hF.ev
  obtain ⟨b1, b2, b3, b4, b5, b6⟩ := src_bd hF.cert hs
  have hkin := kin_of hF.cert hs
  obtain ⟨kd, sec, dmp⟩ := s
  dsimp only at b1 b2 b3 b4 b5 b6 hkin ⊢
  obtain ⟨k, rfl⟩ : ∃ k : Nat, sec = (k : Int) := ⟨sec.toNat, by omega⟩
  obtain ⟨dm, rfl⟩ : ∃ k : Nat, dmp = (k : Int) := ⟨dmp.toNat, by omega⟩
  have HKIN := Lib.hid hkin
  have hTP : T * P ≤ 128 := Nat.mul_le_mul F.t16 F.p8
  have hdn := hF.secs
  have hper := hF.per
  have H0 := Lib.hid h
  have HD0 := Lib.hid hd
  have HX := Lib.hid hx
  have HDX := Lib.hid hdx
  have HCB := Lib.hid hcb
  have HA2 := Lib.hid hA2
  have hgb := World.block_lt_of_cell? w _ hx.c0
  have hgc := World.block_lt_of_cell? w _ hcb
  obtain ⟨X, c, rfl, hX⟩ := OwnL.shape hd
  have h1TP : 1 ≤ T * P := Nat.mul_le_mul F.t1 F.p1
  obtain ⟨g, rfl, _, hg⟩ := hX.resolve_left (by intro e; rw [e] at hdn; simp at hdn; omega)
  have HSC := Lib.hid (fun (k : Nat) (s : Sec) (hk : d.secs[k]? = some s) => And.intro (OwnL.cell Sec.len hd hk (j := 0) rfl) (OwnL.cell Sec.len hd hk (j := 1) rfl))
  have HBZ : Below w.heap.size w (w.alloc (.cells #[.int .i64 kd, .int .i64 (k : Int), .int .i64 (dm : Int)] 83)) := Below.alloc (Below.refl _ _) (Nat.le_refl _) _
  have RS := Row.alloc w #[.int .i64 kd, .int .i64 (k : Int), .int .i64 (dm : Int)] 83
  have zz : ((w.alloc (.cells #[.int .i64 kd, .int .i64 (k : Int), .int .i64 (dm : Int)] 83))).heap.size = w.heap.size + 1 := by simp
  rw [hdn] at HD0 HDX
  clear h hd hX hx hdx hcb hA2 hkin
  go_enter Tryz.func44, Tryz.ntmps44
  generalize hN : T * P = N at *
  have HDN := Lib.hid hdn
  have HCW : Hid (∀ w', Below w.heap.size w w' → EvBox gb w' va vb vc vd ∧ Row w' gd (dscL d (.slice (some ⟨g, 0, none⟩) N c))) := Lib.hid fun w' hb => ⟨HX.out.below hb, HDX.out.below hb hgd⟩
  have q4 : ((w.alloc (.cells #[.int .i64 kd, .int .i64 (k : Int), .int .i64 (dm : Int)] 83))).cell? ⟨gd, 4, none⟩ = some (.slice (some ⟨g, 0, none⟩) N c) := (HCW.out _ HBZ).2 4 _ rfl
  clear hdn
  by_cases hlt : k < N
  rotate_left
  · have HF := Lib.hid (src_none (e := e) (d := d) (l := l) (s := ⟨kd, (k : Int), (dm : Int)⟩) (List.getElem?_eq_none (by show d.secs.length ≤ k; rw [HDN.out]; omega)))
    have hd1 : decide ((k : Int) ≥ (N : Int)) = true := decide_eq_true (by omega)
    have hd2 : decide (N ≤ k) = true := decide_eq_true (by omega)
    go_wp2_with (fail)
    go_ret
    exact ⟨ret_bool HF.out.symm, HBZ⟩
  · obtain ⟨xs, hxs⟩ : ∃ xs, d.secs[k]? = some xs := ⟨d.secs[k]'(by rw [HDN.out]; exact hlt), List.getElem?_eq_getElem _⟩
    have hd1 : decide ((k : Int) ≥ (N : Int)) = false := decide_eq_false (by omega)
    have hd2 : decide (N ≤ k) = false := decide_eq_false (by omega)
    have hlt' : (k : Int) < (N : Int) := by omega
    obtain ⟨x0, x1⟩ := HSC.out k xs hxs
    rw [Nat.add_zero] at x0
    have HX0 := Lib.hid x0
    have HX1 := Lib.hid x1
    have y0 := (HBZ.cell (p := ⟨g, _, none⟩) hg).trans x0
    have y1 := (HBZ.cell (p := ⟨g, _, none⟩) hg).trans x1
    clear x0 x1
    by_cases hst : xs.state = 1
    rotate_left
    · have HF := Lib.hid (src_st (e := e) (d := d) (l := l) (s := ⟨kd, (k : Int), (dm : Int)⟩) hxs hst)
      have hst2 : (xs.state != 1) = true := by simpa using hst
      clear hxs hst
      go_wp2_with (fail)
      go_ret
      exact ⟨ret_bool HF.out.symm, HBZ⟩
    · have hst2 : (xs.state != 1) = false := by rw [hst]; rfl
      have HST := Lib.hid hst
      have HXS := Lib.hid hxs
      clear hst hxs
      have HCL : Hid (∀ w', Below ((w.alloc (.cells #[.int .i64 kd, .int .i64 (k : Int), .int .i64 (dm : Int)] 83))).heap.size (w.alloc (.cells #[.int .i64 kd, .int .i64 (k : Int), .int .i64 (dm : Int)] 83)) w' → EvBox gb w' va vb vc vd ∧ Row w' gd (dscL d (.slice (some ⟨g, 0, none⟩) N c)) ∧ Row w' w.heap.size [.int .i64 kd, .int .i64 (k : Int), .int .i64 (dm : Int)] ∧ w'.cell? ⟨g, k * 2, none⟩ = some (.string xs.data) ∧ w'.cell? ⟨g, k * 2 + 1, none⟩ = some (.int .i64 xs.state) ∧ Below w.heap.size w w') := Lib.hid fun w' hb => by
        have hbw := HBZ.trans (hb.mono (by omega))
        exact ⟨(HCW.out w' hbw).1, (HCW.out w' hbw).2, RS.below hb (by omega), (hbw.cell (p := ⟨g, _, none⟩) hg).trans HX0.out, (hbw.cell (p := ⟨g, _, none⟩) hg).trans HX1.out, hbw⟩
      have hm2 := F.m2
      have hmd : xs.data.size ≤ 4096 := by rw [hF.sm xs (List.mem_of_getElem? HXS.out)]; omega
      have hcrk : k < e.cr.length := by rw [F.crl, hN]; exact hlt
      have hcr2 : e.cr.length ≤ 1048576 := by rw [F.crl, hN]; omega
      have HFT := Lib.hid (fits_s B gb e va vb vc vd k xs.data (w.alloc (.cells #[.int .i64 kd, .int .i64 (k : Int), .int .i64 (dm : Int)] 83)) (HCW.out _ HBZ).1 (H0.out.below HBZ) hcrk hcr2 hmd F.cr)
      have HNF := Lib.hid (fun hh => src_nofit (e := e) (d := d) (l := l) (s := ⟨kd, (k : Int), (dm : Int)⟩) HXS.out hh)
      have HGO := Lib.hid (fun hh => src_go (e := e) (d := d) (l := l) (s := ⟨kd, (k : Int), (dm : Int)⟩) HXS.out HST.out hh)
      cases hft : fitB e.cr k xs.data
      · have HF := Lib.hid (HNF.out hft)
        rw [hft] at HFT
        go_wp2_with (fail)
        refine HFT.out.mono ?_; rintro r w6 ⟨rfl, hb6⟩
        go_wp2_with (fail)
        go_ret
        exact ⟨ret_bool HF.out.symm, HBZ.trans (hb6.mono HBZ.size)⟩
      · have HG := Lib.hid (HGO.out hft)
        rw [hft] at HFT
        go_wp2_with (fail)
        refine HFT.out.mono ?_; rintro r w6 ⟨rfl, hb6⟩
        obtain ⟨EB, R1, R3, y0', y1', B6⟩ := HCL.out w6 hb6
        have z6 := B6.size
        clear q4 y0 y1 HNF HGO HFT HCL RS
        have s0 := R3 0 _ rfl
        have s2 := R3 2 _ rfl
        have c0 := EB.c0
        have d2 := R1 2 _ rfl
        have d4 := R1 4 _ rfl
        have hkds : ∀ dd ∈ e.ds, k < dd.secs.length := fun dd hm => by rw [F.dss dd hm, hN]; exact hlt
        have hdm5 := F.d5
        obtain rfl | rfl | rfl | rfl : kd = 1 ∨ kd = 2 ∨ kd = 3 ∨ kd = 4 := by omega
        · have hdsl : e.ds.length ≤ 1048576 := by omega
          obtain ⟨A', c', e', hA'⟩ := (H0.out.below B6).ds
          subst e'
          by_cases hdl : dm < e.ds.length
          rotate_left
          · have HF : Hid (srcC e d l ⟨1, (k : Int), (dm : Int)⟩ = false) := Lib.hid (HG.out.trans (by
              show (match e.ds[dm]? with | none => false | some y => _) = false
              rw [List.getElem?_eq_none (by omega)]))
            have hd3 : decide (dm < e.ds.length) = false := decide_eq_false hdl
            have hd4 : decide ((dm : Int) < (e.ds.length : Int)) = false := decide_eq_false (by omega)
            clear hdl hA'
            go_wp2_with (fail)
            go_quiet (fail)
            go_wp2_with (fail)
            go_ret
            exact ⟨ret_bool HF.out.symm, below_drewNQ B6 _⟩
          · obtain ⟨zd, hzd⟩ : ∃ zd, e.ds[dm]? = some zd := ⟨e.ds[dm], List.getElem?_eq_getElem hdl⟩
            have hkz := hkds zd (List.mem_of_getElem? hzd)
            obtain ⟨qs, hqs⟩ : ∃ qs, zd.secs[k]? = some qs := ⟨zd.secs[k], List.getElem?_eq_getElem hkz⟩
            have HF : Hid (srcC e d l ⟨1, (k : Int), (dm : Int)⟩ = (qs.data.toList == xs.data.toList && qs.state == 1)) := Lib.hid (HG.out.trans (by
              show (match e.ds[dm]? with | none => false | some y => (match y.secs[k]? with | none => false | some z => z.data.toList == xs.data.toList && z.state == 1)) = _
              rw [hzd]; show (match zd.secs[k]? with | none => false | some z => z.data.toList == xs.data.toList && z.state == 1) = _
              rw [hqs]))
            obtain ⟨gz, rfl, _, hgz, hcz⟩ := hA'.resolve_left (by intro h0; rw [h0] at hdl; simp at hdl)
            obtain ⟨bv, o1, o2⟩ := hcz dm zd hzd
            obtain ⟨A3, c3', rfl, hA3⟩ := OwnL.shape o1
            obtain ⟨g3, rfl, _, hg3⟩ := hA3.resolve_left (by intro h0; rw [h0] at hkz; simp at hkz)
            have f2 := o2 4 _ rfl
            have f3 := OwnL.cell Sec.len o1 hqs (j := 0) rfl
            have f4 := OwnL.cell Sec.len o1 hqs (j := 1) rfl
            rw [Nat.add_zero] at f3
            have hd3 : decide (dm < e.ds.length) = true := decide_eq_true hdl
            have hd4 : decide ((dm : Int) < (e.ds.length : Int)) = true := decide_eq_true (by omega)
            have hkz' : (k : Int) < (zd.secs.length : Int) := by omega
            have hdl' : (dm : Int) < (e.ds.length : Int) := by omega
            have HST1 := HST.out
            rw [HST1] at y1'
            clear hzd hqs hA' hcz o1 o2 hA3 HST1
            cases h1 : (qs.data.toList == xs.data.toList) <;> cases h2 : (qs.state == 1)
            all_goals rw [h1, h2] at HF
            all_goals
              go_wp2_with (fail)
              go_quiet (fail)
              go_wp2_with (fail)
              go_ret
              exact ⟨ret_bool HF.out.symm, below_drewNQ B6 _⟩
        · have HR := Lib.hid (rd_s B gb e _ _ _ _ k w6 EB (H0.out.below B6) (by omega) hkds (by omega))
          have HRZ := rd_size F.dm hkds
          have hrl := rdF_len k e.ds
          have hm1 := F.m1
          have HF : Hid (srcC e d l ⟨2, (k : Int), (dm : Int)⟩ = ((voteE (rdF k e.ds)).2 && (voteE (rdF k e.ds)).1.toList == xs.data.toList)) := Lib.hid HG.out
          generalize rdF k e.ds = R at *
          have HRZ' := Lib.hid HRZ
          clear HRZ
          go_wp2_with (fail)
          refine HR.out.mono ?_; rintro r w7 ⟨v7, rfl, ho7, hb7⟩
          have HV := Lib.hid (votd_s _ R _ w7 ho7 (by omega) m HRZ'.out (by omega) hm1)
          obtain ⟨A7, k7, rfl, _⟩ := OwnL.shape ho7
          have B8 := B6.trans (hb7.mono z6)
          clear ho7
          generalize voteE R = V at *
          cases hv : V.2
          · rw [hv] at HV HF
            go_wp2_with (fail)
            refine HV.out.mono ?_; rintro r w8 ⟨rfl, hb8⟩
            go_wp2_with (fail)
            go_ret
            exact ⟨ret_bool (by rw [HF.out]; rfl), B8.trans (hb8.mono B8.size)⟩
          · rw [hv] at HV HF
            cases he : (V.1.toList == xs.data.toList)
            all_goals
              rw [he] at HF
              go_wp2_with (fail)
              refine HV.out.mono ?_; rintro r w8 ⟨rfl, hb8⟩
              go_wp2_with (fail)
              go_ret
              exact ⟨ret_bool (by rw [HF.out]; rfl), B8.trans (hb8.mono B8.size)⟩
        · have HV := Lib.hid (slv_s B gb e _ _ _ _ k w6 EB (H0.out.below B6) (by omega) hkds hcrk hcr2 m F.dm (by omega) F.cr)
          have HF : Hid (srcC e d l ⟨3, (k : Int), (dm : Int)⟩ = ((slvE e k).2 && (slvE e k).1.toList == xs.data.toList)) := Lib.hid HG.out
          generalize slvE e k = V at *
          cases hv : V.2
          · rw [hv] at HV HF
            go_wp2_with (fail)
            refine HV.out.mono ?_; rintro r w8 ⟨rfl, hb8⟩
            go_wp2_with (fail)
            go_ret
            exact ⟨ret_bool (by rw [HF.out]; rfl), B6.trans (hb8.mono z6)⟩
          · rw [hv] at HV HF
            cases he : (V.1.toList == xs.data.toList)
            all_goals
              rw [he] at HF
              go_wp2_with (fail)
              refine HV.out.mono ?_; rintro r w8 ⟨rfl, hb8⟩
              go_wp2_with (fail)
              go_ret
              exact ⟨ret_bool (by rw [HF.out]; rfl), B6.trans (hb8.mono z6)⟩
        · have HF : Hid (srcC e d l ⟨4, (k : Int), (dm : Int)⟩ = parC e d l (k / P)) := Lib.hid (HG.out.trans (by show parC e d l (k / d.per.toNat) = _; rw [hper]; rfl))
          have hp1 := F.p1
          have hp8 := F.p8
          have ht16 := F.t16
          have hdm := Nat.div_add_mod k P
          have hml := Nat.mod_lt k (show 0 < P by omega)
          have hq1 : (k : Int).tdiv (P : Int) = ((k / P : Nat) : Int) := by rw [Int.tdiv_eq_ediv_of_nonneg (by omega)]; rfl
          have hq2 : (k : Int) / (P : Int) = ((k / P : Nat) : Int) := rfl
          have htT : k / P < T := Nat.div_lt_of_lt_mul (by rw [Nat.mul_comm, hN]; exact hlt)
          obtain ⟨pt, hpt⟩ : ∃ s, e.p[k / P]? = some s := ⟨e.p[k / P]'(by rw [F.pl]; exact htT), List.getElem?_eq_getElem _⟩
          obtain ⟨qt, hqt⟩ : ∃ s, e.q[k / P]? = some s := ⟨e.q[k / P]'(by rw [F.ql]; exact htT), List.getElem?_eq_getElem _⟩
          have hpz := F.ps pt (List.mem_of_getElem? hpt)
          have hqz := F.qs qt (List.mem_of_getElem? hqt)
          have hoP : k / P * P + P ≤ d.secs.length := by
            rw [HDN.out, ← hN]
            have := Nat.mul_le_mul_right P (show k / P + 1 ≤ T by omega)
            rw [Nat.add_mul, Nat.one_mul] at this; exact this
          have hlos : losB l (k / P * P) (k % P) = true := by
            unfold losB
            rw [show k / P * P + k % P = k by rw [Nat.mul_comm]; exact hdm, HKIN.out]; rfl
          have hd128 : d.secs.length ≤ 1048576 := by rw [HDN.out]; omega
          have HP := Lib.hid (byp_s B Bd gb gd gc e _ _ _ _ d (.slice (some ⟨g, 0, none⟩) N c) l A2 c2 (k / P) P (k / P * P) w6 EB (H0.out.below B6) R1 (by omega) (OwnL.below HD0.out B6) ((B6.cell (p := ⟨gc, 0, none⟩) hgc).trans HCB.out) (HA2.out.below B6) hF.cert hper hp1 (by omega) rfl hoP hd128 hll (by omega) pt qt hpt hqt (by omega) (by omega) (k % P) hml hlos)
          rw [hper] at d2
          generalize k / P = tt at *
          have hP0 : ((P : Int) == 0) = false := by rw [beq_eq_false_iff_ne]; omega
          have hP00 : ¬ ((P : Int) = 0) := by omega
          clear hpt hqt hdm hlos
          go_wp2_with (fail)
          refine HP.out.mono ?_; rintro r w7 ⟨rfl, hb7⟩
          go_wp2_with (fail)
          go_ret
          exact ⟨ret_bool HF.out.symm, B6.trans (hb7.mono z6)⟩
end Go.Proofs.YtfcdienphillnaaGreat
namespace Go.Proofs.YtfcdienphillnaaGreat
set_option linter.unusedVariables false
set_option linter.unusedSimpArgs false
open Go.RowKit
theorem secAt_of {Bd n c : Nat} {w : World} {X : Option Addr} {l : List Sec} (h : SecOwn Bd w (.slice X n c) l) (hn : l.length = n) : l = [] ∨ ∃ g, X = some ⟨g, 0, none⟩ ∧ g < w.heap.size ∧ ∀ (k : Nat) (s : Sec), l[k]? = some s → w.cell? ⟨g, k * 2, none⟩ = some (.string s.data) ∧ w.cell? ⟨g, k * 2 + 1, none⟩ = some (.int .i64 s.state) := by
  subst hn
  obtain ⟨A', c', e, hA⟩ := OwnL.shape h
  injection e with e1 _ _
  subst e1
  by_cases hl0 : l = []
  · exact .inl hl0
  · obtain ⟨g, rfl, _, hg⟩ := hA.resolve_left hl0
    exact .inr ⟨g, rfl, hg, fun k s hk => ⟨OwnL.cell Sec.len h hk (j := 0) rfl, OwnL.cell Sec.len h hk (j := 1) rfl⟩⟩
set_option maxRecDepth 20000 in
set_option maxHeartbeats 8000000 in
theorem asks_s (B Bd gb gd gc : Nat) (e : Evd) (va vb vc vd : Value) (d : Dsc) (X : Option Addr) (c : Nat) (l : List Src) (A2 : Option Addr) (c2 : Nat) (w : World) (hx : EvBox gb w va vb vc vd) (h : EvOwn B w e va vb vc vd) (hs : EvSmall e) (hdx : Row w gd (dscL d (.slice X d.secs.length c))) (hgd : gd < w.heap.size) (hd : SecOwn Bd w (.slice X d.secs.length c) d.secs) (hn : d.secs.length ≤ 1048576) (hm : ∀ s ∈ d.secs, s.data.size ≤ maxLen)
    (hcb : w.cell? ⟨gc, 0, none⟩ = some (.slice A2 l.length c2)) (hA2 : SrcAt w A2 l) (hll : l.length ≤ 1048576) :
    Calls Tryz.prog 42 #[.pointer (some ⟨gb, 0, none⟩), .pointer (some ⟨gd, 0, none⟩), .pointer (some ⟨gc, 0, none⟩)] w fun r w' => r = .returned (.bool (askB e d l)) ∧ Below w.heap.size w w' := by
  have hgb := World.block_lt_of_cell? w _ hx.c0
  have hgc := World.block_lt_of_cell? w _ hcb
  have HAB : Hid (askB e d l = (evOk e && (discOk d && (certOk l && sameG d (e.ds.headD default))))) := Lib.hid rfl
  have HE := Lib.hid (evp_s B gb e va vb vc vd w hx h hs)
  have HDK := Lib.hid (fun (w' : World) (hb : Below w.heap.size w w') => discq_s d gd 0 c X w' ((hdx.below hb hgd) 0 _ rfl) ((hdx.below hb hgd) 1 _ rfl) ((hdx.below hb hgd) 2 _ rfl) ((hdx.below hb hgd) 3 _ rfl) ((hdx.below hb hgd) 4 _ rfl) (secAt_of (OwnL.below hd hb) rfl) hn hm)
  have HCK := Lib.hid (fun (w' : World) (hb : Below w.heap.size w w') => certp_s gc c2 A2 l w' ((hb.cell (p := ⟨gc, 0, none⟩) hgc).trans hcb) (hA2.below hb) hll)
  cases hev : evOk e
  · rw [hev] at HE HAB
    go_enter Tryz.func42, Tryz.ntmps42
    go_wp2_with (fail)
    refine HE.out.mono ?_; rintro r w1 ⟨rfl, hb1⟩
    go_wp2_with (fail)
    go_ret
    exact ⟨ret_bool (by rw [HAB.out]; rfl), hb1⟩
  · obtain ⟨z, P, m, T, F⟩ := ev_f hev
    have hz : e.ds.headD default = z := by
      have := F.z0
      cases hd : e.ds with
      | nil => rw [hd] at this; cases this
      | cons a r => rw [hd] at this; simpa using this
    have HX := Lib.hid hx
    have HDX := Lib.hid hdx
    have hds := h.ds
    obtain ⟨A, c0, rfl, hA⟩ := hds
    have hz0 := F.z0
    obtain ⟨gz, rfl, _, hgz, hcz⟩ := hA.resolve_left (by intro h0; rw [h0] at hz0; simp at hz0)
    obtain ⟨bv, o1, o2⟩ := hcz 0 z hz0
    have y0 : w.cell? ⟨gz, 0, none⟩ = some (.int .i64 z.cyl) := by have := o2 0 _ rfl; simpa using this
    have y1 : w.cell? ⟨gz, 1, none⟩ = some (.int .i64 z.heads) := by have := o2 1 _ rfl; simpa using this
    have y2 : w.cell? ⟨gz, 2, none⟩ = some (.int .i64 z.per) := by have := o2 2 _ rfl; simpa using this
    have y3 : w.cell? ⟨gz, 3, none⟩ = some (.int .i64 z.size) := by have := o2 3 _ rfl; simpa using this
    have hdl1 : (0 : Int) < (e.ds.length : Int) := by have := F.d1; omega
    have hdl2 : 0 < e.ds.length := F.d1
    have HAL := Lib.hid (fun (w' : World) (hb : Below w.heap.size w w') => alike_s z d gz 0 gd 0 w' (fun q => Wb.cell ((hb.cell (p := ⟨gz, 0, none⟩) hgz).trans y0) q) (fun q => Wb.cell ((hb.cell (p := ⟨gz, 1, none⟩) hgz).trans y1) q) (fun q => Wb.cell ((hb.cell (p := ⟨gz, 2, none⟩) hgz).trans y2) q) (fun q => Wb.cell ((hb.cell (p := ⟨gz, 3, none⟩) hgz).trans y3) q) (fun q => Wb.cell ((hdx.below hb hgd) 0 _ rfl) q) (fun q => Wb.cell ((hdx.below hb hgd) 1 _ rfl) q) (fun q => Wb.cell ((hdx.below hb hgd) 2 _ rfl) q) (fun q => Wb.cell ((hdx.below hb hgd) 3 _ rfl) q))
    rw [sameG_comm z d] at HAL
    rw [hev, hz] at HAB
    rw [hev] at HE
    clear hz o1 o2 hcz hA hz0 hx h hdx hd hcb hA2 y0 y1 y2 y3
    go_enter Tryz.func42, Tryz.ntmps42
    go_wp2_with (fail)
    refine HE.out.mono ?_; rintro r w1 ⟨rfl, hb1⟩
    have HDK1 := Lib.hid (HDK.out w1 hb1)
    cases hdk : discOk d
    · rw [hdk] at HDK1 HAB
      go_wp2_with (fail)
      refine HDK1.out.mono ?_; rintro r w2 ⟨rfl, hb2⟩
      go_wp2_with (fail)
      go_ret
      exact ⟨ret_bool (by rw [HAB.out]; rfl), hb1.trans (hb2.mono hb1.size)⟩
    · rw [hdk] at HDK1 HAB
      go_wp2_with (fail)
      refine HDK1.out.mono ?_; rintro r w2 ⟨rfl, hb2⟩
      have hb12 := hb1.trans (hb2.mono hb1.size)
      have HCK1 := Lib.hid (HCK.out w2 hb12)
      cases hck : certOk l
      · rw [hck] at HCK1 HAB
        go_wp2_with (fail)
        refine HCK1.out.mono ?_; rintro r w3 ⟨rfl, hb3⟩
        go_wp2_with (fail)
        go_ret
        exact ⟨ret_bool (by rw [HAB.out]; rfl), hb12.trans (hb3.mono hb12.size)⟩
      · rw [hck] at HCK1 HAB
        go_wp2_with (fail)
        refine HCK1.out.mono ?_; rintro r w3 ⟨rfl, hb3⟩
        have hb13 := hb12.trans (hb3.mono hb12.size)
        have HAL1 := Lib.hid (HAL.out w3 hb13)
        have c0' := (HX.out.below hb13).c0
        go_wp2_with (fail)
        refine HAL1.out.mono ?_; rintro r w4 ⟨rfl, hb4⟩
        go_wp2_with (fail)
        go_ret
        exact ⟨ret_bool (by rw [HAB.out]; rfl), hb13.trans (hb4.mono hb13.size)⟩
set_option maxRecDepth 20000 in
set_option maxHeartbeats 8000000 in
theorem chk_s (B Bd Bc : Nat) (e : Evd) (va vb vc vd : Value) (d : Dsc) (x : Value) (l : List Src) (y : Value) (k : Int) (w : World) (h : EvOwn B w e va vb vc vd) (hs : EvSmall e) (hd : SecOwn Bd w x d.secs) (hn : d.secs.length ≤ 1048576) (hm : ∀ s ∈ d.secs, s.data.size ≤ maxLen) (hl : OwnL Src.cells 3 83 Bc w y l) (hll : l.length ≤ 1048576) :
    Calls Tryz.prog 11 #[evV va vb vc vd, dscV d x, .agg #[y], .int .i64 k] w fun r w' => r = .returned (.bool (chkS e d l k)) ∧ Below w.heap.size w w' := by
  have H0 := Lib.hid h
  have HD0 := Lib.hid hd
  have HL0 := Lib.hid hl
  obtain ⟨A, n, B', kk, C, i, D, j, rfl, rfl, rfl, rfl⟩ := h.shape
  obtain ⟨X, c, rfl, _⟩ := OwnL.shape hd
  obtain ⟨A2, c2, rfl, hA2⟩ := OwnL.shape hl
  obtain ⟨RE, RD, RC, HBZ, zz⟩ := boxes3 w #[.slice A e.ds.length n, .slice B' e.cr.length kk, .slice C e.p.length i, .slice D e.q.length j] #[.int .i64 d.cyl, .int .i64 d.heads, .int .i64 d.per, .int .i64 d.size, .slice X d.secs.length c] #[.slice A2 l.length c2] 39 43 47
  have HCW : Hid (∀ w', Below ((((w.alloc (.cells #[.slice A e.ds.length n, .slice B' e.cr.length kk, .slice C e.p.length i, .slice D e.q.length j] 39)).alloc (.cells #[.int .i64 d.cyl, .int .i64 d.heads, .int .i64 d.per, .int .i64 d.size, .slice X d.secs.length c] 43)).alloc (.cells #[.slice A2 l.length c2] 47))).heap.size (((w.alloc (.cells #[.slice A e.ds.length n, .slice B' e.cr.length kk, .slice C e.p.length i, .slice D e.q.length j] 39)).alloc (.cells #[.int .i64 d.cyl, .int .i64 d.heads, .int .i64 d.per, .int .i64 d.size, .slice X d.secs.length c] 43)).alloc (.cells #[.slice A2 l.length c2] 47)) w' → EvBox w.heap.size w' (.slice A e.ds.length n) (.slice B' e.cr.length kk) (.slice C e.p.length i) (.slice D e.q.length j) ∧ Row w' (w.heap.size + 1) (dscL d (.slice X d.secs.length c)) ∧ w'.cell? ⟨w.heap.size + 1 + 1, 0, none⟩ = some (.slice A2 l.length c2) ∧ SrcAt w' A2 l ∧ EvOwn B w' e (.slice A e.ds.length n) (.slice B' e.cr.length kk) (.slice C e.p.length i) (.slice D e.q.length j) ∧ SecOwn Bd w' (.slice X d.secs.length c) d.secs ∧ Below w.heap.size w w') := Lib.hid fun w' hb => by
    have hbw := HBZ.trans (hb.mono (by rw [zz]; omega))
    have re := RE.below hb (by rw [zz]; omega)
    exact ⟨⟨re 0 _ rfl, re 1 _ rfl, re 2 _ rfl, re 3 _ rfl⟩, RD.below hb (by rw [zz]; omega), (RC.below hb (by rw [zz]; omega)) 0 _ rfl, SrcAt.of (OwnL.below HL0.out hbw) rfl, H0.out.below hbw, OwnL.below HD0.out hbw, hbw⟩
  clear h hd hl RE RD RC
  go_enter Tryz.func11, Tryz.ntmps11
  go_wp2_with (fail)
  generalize (((w.alloc (.cells #[.slice A e.ds.length n, .slice B' e.cr.length kk, .slice C e.p.length i, .slice D e.q.length j] 39)).alloc (.cells #[.int .i64 d.cyl, .int .i64 d.heads, .int .i64 d.per, .int .i64 d.size, .slice X d.secs.length c] 43)).alloc (.cells #[.slice A2 l.length c2] 47)) = w3 at *
  obtain ⟨E1, E2, E3, E4, E5, E6, E7⟩ := HCW.out w3 (Below.refl _ _)
  have HV := Lib.hid (asks_s B Bd w.heap.size (w.heap.size + 1) (w.heap.size + 1 + 1) e _ _ _ _ d X c l A2 c2 w3 E1 E5 hs E2 (by omega) E6 hn hm E3 E4 hll)
  clear E1 E2 E3 E4 E5 E6 E7
  cases hab : askB e d l
  · have HF := Lib.hid (chk_no1 (k := k) hab)
    rw [hab] at HV
    refine HV.out.mono ?_; rintro r w4 ⟨rfl, hb4⟩
    go_wp2_with (fail)
    go_ret
    exact ⟨ret_bool HF.out.symm, HBZ.trans (hb4.mono (by omega))⟩
  · obtain ⟨P, m, T, F⟩ := ask_f hab
    rw [hab] at HV
    cases hin : inB k 0 ((l.length : Int) - 1)
    · have HF := Lib.hid (chk_no2 (e := e) (d := d) hin)
      have HIN := Lib.hid (fun (w' : World) => in_s k 0 ((l.length : Int) - 1) w')
      rw [hin] at HIN
      refine HV.out.mono ?_; rintro r w4 ⟨rfl, hb4⟩
      obtain ⟨_, _, E3, _, _, _, E7⟩ := HCW.out w4 hb4
      go_wp2_with (fail)
      refine (HIN.out _).mono ?_; rintro r w5 ⟨rfl, rfl⟩
      go_wp2_with (fail)
      go_ret
      exact ⟨ret_bool HF.out.symm, E7⟩
    · have hkb := inB_yes hin
      obtain ⟨q, rfl⟩ : ∃ q : Nat, k = (q : Int) := ⟨k.toNat, by omega⟩
      have hql : q < l.length := by omega
      obtain ⟨s, hsq⟩ : ∃ s, l[q]? = some s := ⟨l[q], List.getElem?_eq_getElem hql⟩
      have HF := Lib.hid (chk_yes hab hin hsq)
      have HIN := Lib.hid (fun (w' : World) => in_s (q : Int) 0 ((l.length : Int) - 1) w')
      rw [hin] at HIN
      obtain ⟨g, rfl, _, hg⟩ := hA2.resolve_left (by intro h0; rw [h0] at hql; simp at hql)
      have hq1 : (q : Int) < (l.length : Int) := by omega
      have HSQ := Lib.hid hsq
      clear hsq hkb hin hA2
      refine HV.out.mono ?_; rintro r w4 ⟨rfl, hb4⟩
      obtain ⟨E1, E2, E3, E4, E5, E6, E7⟩ := HCW.out w4 hb4
      have y0 := (E7.cell (p := ⟨g, _, none⟩) hg).trans (OwnL.cell Src.len HL0.out HSQ.out (j := 0) rfl)
      have y1 := (E7.cell (p := ⟨g, _, none⟩) hg).trans (OwnL.cell Src.len HL0.out HSQ.out (j := 1) rfl)
      have y2 := (E7.cell (p := ⟨g, _, none⟩) hg).trans (OwnL.cell Src.len HL0.out HSQ.out (j := 2) rfl)
      rw [Nat.add_zero] at y0
      have HC := Lib.hid (src_s B Bd w.heap.size (w.heap.size + 1) (w.heap.size + 1 + 1) e _ _ _ _ d _ l _ c2 s q P m T w4 HSQ.out F E1 E5 E2 (by have := E7.size; have := hb4.size; omega) E6 E3 E4 hll)
      clear E1 E2 E4 E5 E6
      go_wp2_with (fail)
      refine (HIN.out _).mono ?_; rintro r w5 ⟨rfl, rfl⟩
      go_wp2_with (fail)
      refine HC.out.mono ?_; rintro r w6 ⟨rfl, hb6⟩
      go_wp2_with (fail)
      go_ret
      exact ⟨ret_bool HF.out.symm, E7.trans (hb6.mono E7.size)⟩
end Go.Proofs.YtfcdienphillnaaGreat
namespace Go.Proofs.YtfcdienphillnaaGreat
set_option linter.unusedVariables false
set_option linter.unusedSimpArgs false
open Go.RowKit
abbrev Four (a b c d : Value) (g : Nat) (w : World) : Prop := w.cell? ⟨g, 0, none⟩ = some a ∧ w.cell? ⟨g, 1, none⟩ = some b ∧ w.cell? ⟨g, 2, none⟩ = some c ∧ w.cell? ⟨g, 3, none⟩ = some d
theorem Row.four {w : World} {g : Nat} {a b c d : Value} (h : Row w g [a, b, c, d]) : Four a b c d g w := ⟨h 0 _ rfl, h 1 _ rfl, h 2 _ rfl, h 3 _ rfl⟩
theorem swts_mem {l : List ByteArray} {x : Int} (h : ((l.length + swts l : Nat) : Int) ≤ x) : ((l.length : Nat) : Int) ≤ x := by omega
/-- the bounds that the size of evidence gives -/
theorem evZ_small {e : Evd} {x : Int} (hx : x ≤ 1048576) (h : ¬ evZ x e < 0) : e.ds.length + Dsc.wts e.ds ≤ 1048576 ∧ e.cr.length ≤ 1048576 ∧ e.p.length + swts e.p ≤ 1048576 ∧ e.q.length + swts e.q ≤ 1048576 := by
  unfold evZ at h
  have hl : ∀ {y : Int} {n : Nat}, ¬ szR y n < 0 → (n : Int) ≤ y ∧ szR y n = y - n := fun {y n} h => by
    have h1 : (n : Int) ≤ y := by rw [szR_neg] at h; omega
    exact ⟨h1, szR_yes h1⟩
  obtain ⟨h4, e4⟩ := hl h
  obtain ⟨h3, e3⟩ := hl (y := szR (szR x (e.ds.length + Dsc.wts e.ds)) e.cr.length) (n := e.p.length + swts e.p) (by omega)
  obtain ⟨h2, e2⟩ := hl (y := szR x (e.ds.length + Dsc.wts e.ds)) (n := e.cr.length) (by omega)
  obtain ⟨h1, e1⟩ := hl (y := x) (n := e.ds.length + Dsc.wts e.ds) (by omega)
  omega
theorem ev_small {w : World} {e : Evd} {a b c d : Value} (h : EvIn w e a b c d) (hw : e.ds.length + Dsc.wts e.ds ≤ 1048576 ∧ e.cr.length ≤ 1048576 ∧ e.p.length + swts e.p ≤ 1048576 ∧ e.q.length + swts e.q ≤ 1048576) : EvSmall e where
  ds := by omega
  secs := fun x hx => by
    have h1 := Dsc.wts_le hx
    have h2 : x.wt = x.secs.length + Sec.wts x.secs := rfl
    omega
  data := by
    obtain ⟨_, _, _, _, hA⟩ := h.ds
    rcases hA with hA | ⟨b, o, _, _, hc⟩
    · intro x hx; rw [hA] at hx; cases hx
    · intro x hx
      obtain ⟨k, hk⟩ := List.getElem?_of_mem hx
      obtain ⟨bv, hs, _⟩ := hc k x hk
      exact hs.2
  cr := by omega
  p := by omega
  q := by omega
  ps := h.p.2
  qs := h.q.2
theorem Row.one {w : World} {b : Nat} {v : Value} (h : Row w b [v]) : w.cell? ⟨b, 0, none⟩ = some v := h 0 _ rfl
theorem toCertR (l : List Src) (v : Value) (w : World) (h : RSourceS.raw w v l) (hn : RSourceS.wt l ≤ 1048576) :
    Calls Tryz.prog 14 #[.agg #[v]] w fun e w' => ∃ A c, e = .returned (.agg #[.slice A l.length c]) ∧ RSourceS.own w.heap.size w'.heap.size w' (.slice A l.length c) l ∧ Below w.heap.size w w' :=
  (toCert l v w h hn).mono fun e w' ⟨v', h1, h2, h3⟩ => by
    obtain ⟨A, c, rfl, _⟩ := h2.1.shape
    exact ⟨A, c, h1, h2, h3⟩
theorem evZ_le {x : Int} (e : Evd) (h : x ≤ 1048576) : evZ x e ≤ 1048576 := by
  unfold evZ
  exact szR_le (szR_le (szR_le (szR_le h)))
end Go.Proofs.YtfcdienphillnaaGreat
