/- The first source of a sector, the reference: the walk. The lists of a track: what the walk of the reference keeps. The answers of a repair, and how two boxes are copied into the results' boxes. -/
import Derived.Test.YtfcdienphillnaaGreatLr32
import Derived.Test.YtfcdienphillnaaGreatLr30
import Derived.Test.YtfcdienphillnaaGreatLr35
import Derived.Test.YtfcdienphillnaaGreatLr04
import Derived.Test.YtfcdienphillnaaGreatLr21
namespace Go.Proofs.YtfcdienphillnaaGreat
set_option linter.unusedVariables false
set_option linter.unusedSimpArgs false
open Go.RowKit
set_option maxRecDepth 20000 in
set_option maxHeartbeats 8000000 in
theorem fir_s (B gb : Nat) (e : Evd) (va vb vc vd : Value) (k : Nat) (w : World) (hx : EvBox gb w va vb vc vd) (h : EvOwn B w e va vb vc vd) (hn : e.ds.length ≤ 5) (hk : ∀ d ∈ e.ds, k < d.secs.length) (hkc : k < e.cr.length) (hcr : e.cr.length ≤ 1048576) (m : Nat) (hm : ∀ d ∈ e.ds, ∀ s ∈ d.secs, s.data.size = m) (hm2 : m ≤ 4096) (hm1 : 1 ≤ m) (hcb : ∀ u ∈ e.cr, inB u (-1) 65535 = true) :
    Calls Tryz.prog 98 #[.pointer (some ⟨gb, 0, none⟩), .int .i64 k] w fun r w' => r = .returned (.tuple #[.agg (firE e k).1.cells.toArray, .string (firE e k).2.1, .bool (firE e k).2.2]) ∧ Below w.heap.size w w' := by
  have H0 := Lib.hid h
  have HX := Lib.hid hx
  have HK := Lib.hid hk
  have HM := Lib.hid hm
  have HCB := Lib.hid hcb
  have hgb := World.block_lt_of_cell? w _ hx.c0
  have hds := h.ds
  have HBZ : Below w.heap.size w (w.alloc (.cells #[.int .i64 0, .int .i64 0, .int .i64 0] 83)) := Below.alloc (Below.refl _ _) (Nat.le_refl _) _
  have zz : ((w.alloc (.cells #[.int .i64 0, .int .i64 0, .int .i64 0] 83))).heap.size = w.heap.size + 1 := by simp
  have RR := Row.alloc w #[.int .i64 0, .int .i64 0, .int .i64 0] 83
  have FR := frozen_alloc w #[.int .i64 0, .int .i64 0, .int .i64 0] 83
  obtain ⟨A, n, rfl, hA⟩ := hds
  clear h hk hm hx hcb
  go_enter Tryz.func98, Tryz.ntmps98
  go_wp2_with (fail)
  generalize (w.alloc (.cells #[.int .i64 0, .int .i64 0, .int .i64 0] 83)) = w0 at *
  have hl5 : e.ds.length ≤ 1048576 := by omega
  have HEB : Hid (∀ w', Below w0.heap.size w0 w' → EvBox gb w' (.slice A e.ds.length n) vb vc vd ∧ EvOwn B w' e (.slice A e.ds.length n) vb vc vd ∧ Below w.heap.size w w') := Lib.hid fun w' hb => by
    have hbw := HBZ.trans (hb.mono (by omega))
    exact ⟨HX.out.below hbw, H0.out.below hbw, hbw⟩
  have HRRC : Hid (∀ w', Below w0.heap.size w0 w' → Row w' w.heap.size [.int .i64 0, .int .i64 0, .int .i64 0] ∧ (∀ o, w'.frozen? ⟨w.heap.size, o, none⟩ = false) ∧ Below w.heap.size w w') := Lib.hid fun w' hb' => ⟨RR.below hb' (by omega), frozen_below FR hb' (by omega), HBZ.trans (hb'.mono (by omega))⟩
  clear RR FR
  go_loopw [7] (fun ii wr => ∃ q : Nat, q ≤ e.ds.length ∧ ii = .int .i64 q ∧ Below w0.heap.size w0 wr ∧ Hid (firD e.cr k 0 e.ds = firD e.cr k q (e.ds.drop q))) (fun ii _ => e.ds.length - (intOf ii).toNat)
  case atStart => exact ⟨0, by omega, rfl, Below.refl _ _, Lib.hid rfl⟩
  case round =>
    obtain ⟨q, hq, rfl, hb, HQ⟩ := hrel
    have zr := hb.size
    obtain ⟨EB, EO, hbw⟩ := HEB.out wr hb
    have a0 := EB.c0
    by_cases hlt : q < e.ds.length
    · obtain ⟨gd, rfl, _, hgd, hcd⟩ := hA.resolve_left (by intro h0; rw [h0] at hlt; simp at hlt)
      obtain ⟨d, hd⟩ : ∃ d, e.ds[q]? = some d := ⟨e.ds[q], List.getElem?_eq_getElem hlt⟩
      have hkd := HK.out d (List.mem_of_getElem? hd)
      obtain ⟨s, hs⟩ : ∃ s, d.secs[k]? = some s := ⟨d.secs[k], List.getElem?_eq_getElem hkd⟩
      obtain ⟨bv, o1, o2⟩ := hcd q d hd
      obtain ⟨A2, c2, rfl, hA2⟩ := OwnL.shape o1
      obtain ⟨g2, rfl, _, hg2⟩ := hA2.resolve_left (by intro h0; rw [h0] at hkd; simp at hkd)
      have hg2r : g2 < wr.heap.size := by have := hbw.size; omega
      have p4 := (hbw.cell (p := ⟨gd, q * 5 + 4, none⟩) hgd).trans (o2 4 _ rfl)
      have s0 : wr.cell? ⟨g2, k * 2, none⟩ = some (.string s.data) := (hbw.cell (p := ⟨g2, _, none⟩) hg2).trans (OwnL.cell Sec.len o1 hs (j := 0) rfl)
      have s1 : wr.cell? ⟨g2, k * 2 + 1, none⟩ = some (.int .i64 s.state) := (hbw.cell (p := ⟨g2, _, none⟩) hg2).trans (OwnL.cell Sec.len o1 hs (j := 1) rfl)
      have hbd : Below wr.heap.size wr (wr.alloc (.cells #[.string s.data, .int .i64 s.state] 70)) := Below.alloc (Below.refl _ _) (Nat.le_refl _) _
      have zd : ((wr.alloc (.cells #[.string s.data, .int .i64 s.state] 70))).heap.size = wr.heap.size + 1 := by simp
      have RS := Row.alloc wr #[.string s.data, .int .i64 s.state] 70
      have hb5 := hb.trans (hbd.mono zr)
      obtain ⟨EB5, EO5, hbw5⟩ := HEB.out _ hb5
      have HFT := Lib.hid (fits_s B gb e _ _ _ _ k s.data (wr.alloc (.cells #[.string s.data, .int .i64 s.state] 70)) EB5 EO5 hkc hcr (by rw [HM.out d (List.mem_of_getElem? hd) s (List.mem_of_getElem? hs)]; exact hm2) HCB.out)
      have HY := Lib.hid (fun hh => fid_yes hd hs HQ hh)
      have HN := Lib.hid (fun hh => fid_no hd hs HQ hh)
      have t0 : ((wr.alloc (.cells #[.string s.data, .int .i64 s.state] 70))).cell? ⟨wr.heap.size, 0, none⟩ = some (.string s.data) := RS 0 _ rfl
      have t1 : ((wr.alloc (.cells #[.string s.data, .int .i64 s.state] 70))).cell? ⟨wr.heap.size, 1, none⟩ = some (.int .i64 s.state) := RS 1 _ rfl
      clear hd hs o1 o2 hcd hA hA2 EB EO EB5 EO5 hbw5
      cases hst : (s.state == 1)
      · have HNX := Lib.hid (HN.out (by rw [hst]; rfl))
        clear HFT HY HN
        go_wp2_with (fail)
        go_roundw
        case rel => exact ⟨q + 1, by omega, by go_num, hb5, HNX.out⟩
        case measure => simp [intOf]; omega
      · cases hft : fitB e.cr k s.data
        · have HNX := Lib.hid (HN.out (by rw [hst, hft]; rfl))
          rw [hft] at HFT
          clear HY HN
          go_wp2_with (fail)
          refine HFT.out.mono ?_; rintro r w6 ⟨rfl, hb6⟩
          go_wp2_with (fail)
          go_roundw
          case rel => exact ⟨q + 1, by omega, by go_num, hb5.trans (hb6.mono hb5.size), HNX.out⟩
          case measure => simp [intOf]; omega
        · have HF := Lib.hid (fir_dump (e := e) (HY.out (by rw [hst, hft]; rfl)))
          rw [hft] at HFT
          clear HY HN
          go_wp2_with (fail)
          generalize (wr.alloc (.cells #[.string s.data, .int .i64 s.state] 70)) = w5 at *
          refine HFT.out.mono ?_; rintro r w6 ⟨rfl, hb6⟩
          have t0' := (RS.below hb6 (by omega)) 0 _ rfl
          have hb06 := hb5.trans (hb6.mono hb5.size)
          obtain ⟨RR6, fz, BW6⟩ := HRRC.out w6 hb06
          clear t0 t1 p4 s0 s1 HFT a0
          have hne1 : w.heap.size ≠ wr.heap.size := by omega
          have hne2 : wr.heap.size ≠ w.heap.size := by omega
          have r0 := RR6 0 _ rfl
          have r1 := RR6 1 _ rfl
          have r2 := RR6 2 _ rfl
          have fz0 := fz 0
          have fz1 := fz 1
          have fz2 := fz 2
          go_wp2_with (fail)
          go_region
          have RR7 := set3_row RR6 (.int .i64 1) (.int .i64 (k : Int)) (.int .i64 (q : Int))
          have BB6 := set3_below BW6 (b := w.heap.size) (by omega) (.int .i64 1) (.int .i64 (k : Int)) (.int .i64 (q : Int))
          generalize (((w6.setCell ⟨w.heap.size, 0, none⟩ (.int .i64 1)).setCell ⟨w.heap.size, 1, none⟩ (.int .i64 (k : Int))).setCell ⟨w.heap.size, 2, none⟩ (.int .i64 (q : Int))) = w7 at *
          have v0 := RR7 0 _ rfl
          have v1 := RR7 1 _ rfl
          have v2 := RR7 2 _ rfl
          go_wp2_with (fail)
          exact bodyPost_ret (v := .tuple #[.agg #[.int .i64 1, .int .i64 (k : Int), .int .i64 (q : Int)], .string s.data, .bool true]) (by simp [results, Tryz.results98, go_sem, v0, v1, v2] <;> rfl) rfl ⟨by rw [HF.out]; rfl, BB6.drew⟩
    · have HNO := Lib.hid (fid_end (by omega) HQ)
      have HR := Lib.hid (rd_s B gb e _ _ _ _ k wr EB EO hl5 HK.out (by omega))
      have HRZ := Lib.hid (rd_size HM.out HK.out)
      have HVZ := Lib.hid (vote_size HRZ.out)
      have hrl := rdF_len k e.ds
      have HFV := Lib.hid (fun hh => fir_vote (e := e) (k := k) HNO.out hh)
      have HFS := Lib.hid (fun hh => fir_solve (e := e) (k := k) HNO.out hh)
      generalize rdF k e.ds = R at *
      clear EB EO
      go_wp2_with (fail)
      refine HR.out.mono ?_; rintro r w5 ⟨v5, rfl, ho5, hb5⟩
      have hb05 := hb.trans (hb5.mono zr)
      have z5 := hb05.size
      have HV := Lib.hid (votd_s _ R _ w5 ho5 (by omega) m HRZ.out (by omega) hm1)
      obtain ⟨A5, k5, rfl, _⟩ := OwnL.shape ho5
      clear ho5 HR a0
      have HVZ' : Hid ((voteE R).1.size ≤ 4096) := Lib.hid (Nat.le_trans HVZ.out hm2)
      generalize voteE R = V at *
      have HSV := Lib.hid (fun (w' : World) (hb' : Below w0.heap.size w0 w') => slv_s B gb e _ _ _ _ k w' (HEB.out w' hb').1 (HEB.out w' hb').2.1 hl5 HK.out hkc hcr m HM.out hm2 HCB.out)
      have HFT := Lib.hid (fun (w' : World) (hb' : Below w0.heap.size w0 w') => fits_s B gb e _ _ _ _ k V.1 w' (HEB.out w' hb').1 (HEB.out w' hb').2.1 hkc hcr HVZ'.out HCB.out)
      cases hv : V.2
      · have HF := Lib.hid (HFS.out (by rw [hv]; rfl))
        rw [hv] at HV
        go_wp2_with (fail)
        refine HV.out.mono ?_; rintro r w6 ⟨rfl, hb6⟩
        have hb06 := hb05.trans (hb6.mono hb05.size)
        have HS6 := Lib.hid (HSV.out w6 hb06)
        clear HSV HFT
        generalize slvE e k = V2 at *
        go_wp2_with (fail)
        refine HS6.out.mono ?_; rintro r w7 ⟨rfl, hb7⟩
        have hb07 := hb06.trans (hb7.mono hb06.size)
        obtain ⟨RR7, FR7, BW7⟩ := HRRC.out w7 hb07
        have r0 := RR7 0 _ rfl
        have r1 := RR7 1 _ rfl
        have r2 := RR7 2 _ rfl
        have fz0 := FR7 0
        have fz1 := FR7 1
        have fz2 := FR7 2
        have RR8 := set3_row RR7 (.int .i64 3) (.int .i64 (k : Int)) (.int .i64 0)
        have BB8 := set3_below BW7 (b := w.heap.size) (by omega) (.int .i64 3) (.int .i64 (k : Int)) (.int .i64 0)
        have v0 := RR8 0 _ rfl
        have v1 := RR8 1 _ rfl
        have v2 := RR8 2 _ rfl
        go_wp2_with (fail)
        exact bodyPost_ret (v := .tuple #[.agg #[.int .i64 3, .int .i64 (k : Int), .int .i64 0], .string V2.1, .bool V2.2]) (by simp [results, Tryz.results98, go_sem, v0, v1, v2] <;> rfl) rfl ⟨by rw [HF.out]; rfl, BB8⟩
      · cases hf : fitB e.cr k V.1
        · have HF := Lib.hid (HFS.out (by rw [hv, hf]; rfl))
          rw [hv] at HV
          rw [hf] at HFT
          go_wp2_with (fail)
          refine HV.out.mono ?_; rintro r w6 ⟨rfl, hb6⟩
          have hb06 := hb05.trans (hb6.mono hb05.size)
          have HT6 := Lib.hid (HFT.out w6 hb06)
          clear HFT
          go_wp2_with (fail)
          refine HT6.out.mono ?_; rintro r w8 ⟨rfl, hb8⟩
          have hb08 := hb06.trans (hb8.mono hb06.size)
          have HS6 := Lib.hid (HSV.out w8 hb08)
          clear HSV
          generalize slvE e k = V2 at *
          go_wp2_with (fail)
          refine HS6.out.mono ?_; rintro r w7 ⟨rfl, hb7⟩
          have hb07 := hb08.trans (hb7.mono hb08.size)
          obtain ⟨RR7, FR7, BW7⟩ := HRRC.out w7 hb07
          have r0 := RR7 0 _ rfl
          have r1 := RR7 1 _ rfl
          have r2 := RR7 2 _ rfl
          have fz0 := FR7 0
          have fz1 := FR7 1
          have fz2 := FR7 2
          have RR8 := set3_row RR7 (.int .i64 3) (.int .i64 (k : Int)) (.int .i64 0)
          have BB8 := set3_below BW7 (b := w.heap.size) (by omega) (.int .i64 3) (.int .i64 (k : Int)) (.int .i64 0)
          have v0 := RR8 0 _ rfl
          have v1 := RR8 1 _ rfl
          have v2 := RR8 2 _ rfl
          go_wp2_with (fail)
          exact bodyPost_ret (v := .tuple #[.agg #[.int .i64 3, .int .i64 (k : Int), .int .i64 0], .string V2.1, .bool V2.2]) (by simp [results, Tryz.results98, go_sem, v0, v1, v2] <;> rfl) rfl ⟨by rw [HF.out]; rfl, BB8⟩
        · have HF := Lib.hid (HFV.out (by rw [hv, hf]; rfl))
          rw [hv] at HV
          rw [hf] at HFT
          go_wp2_with (fail)
          refine HV.out.mono ?_; rintro r w6 ⟨rfl, hb6⟩
          have hb06 := hb05.trans (hb6.mono hb05.size)
          have HT6 := Lib.hid (HFT.out w6 hb06)
          clear HFT
          go_wp2_with (fail)
          refine HT6.out.mono ?_; rintro r w7 ⟨rfl, hb7⟩
          have hb07 := hb06.trans (hb7.mono hb06.size)
          obtain ⟨RR7, FR7, BW7⟩ := HRRC.out w7 hb07
          have r0 := RR7 0 _ rfl
          have r1 := RR7 1 _ rfl
          have r2 := RR7 2 _ rfl
          have fz0 := FR7 0
          have fz1 := FR7 1
          have fz2 := FR7 2
          have RR8 := set3_row RR7 (.int .i64 2) (.int .i64 (k : Int)) (.int .i64 0)
          have BB8 := set3_below BW7 (b := w.heap.size) (by omega) (.int .i64 2) (.int .i64 (k : Int)) (.int .i64 0)
          have v0 := RR8 0 _ rfl
          have v1 := RR8 1 _ rfl
          have v2 := RR8 2 _ rfl
          go_wp2_with (fail)
          exact bodyPost_ret (v := .tuple #[.agg #[.int .i64 2, .int .i64 (k : Int), .int .i64 0], .string V.1, .bool true]) (by simp [results, Tryz.results98, go_sem, v0, v1, v2] <;> rfl) rfl ⟨by rw [HF.out]; rfl, BB8⟩
end Go.Proofs.YtfcdienphillnaaGreat
namespace Go.Proofs.YtfcdienphillnaaGreat
set_option linter.unusedVariables false
set_option linter.unusedSimpArgs false
open Go.RowKit
theorem cell_dr (W : World) (a : Addr) : W.drew.cell? a = W.cell? a := rfl
theorem cell_oth {w : World} {k g o o' : Nat} {u : Value} (h : k ≠ g) : (w.setCell ⟨g, o', none⟩ u).cell? ⟨k, o, none⟩ = w.cell? ⟨k, o, none⟩ := World.cell?_setCell_other _ _ _ _ (fun e => by injection e with e1; exact h e1.symm)
theorem tk_next (t P : Nat) : t * P + P = (t + 1) * P := by rw [Nat.add_mul, Nat.one_mul]
/-- the lists of the lost sectors and of the sources of a track -/
structure RpIn (n1 : Nat) (wr : World) (vl vf : Value) (L : List Int) (F : List Src) : Prop where
  l : Int64L n1 wr vl L
  f : OwnL Src.cells 3 83 n1 wr vf F
  sep : ∀ k, vl.ownBlock = some k → vf.ownBlock ≠ some k
  sz : n1 ≤ wr.heap.size
/-- the sources of a track beside the whole list -/
structure RpOt (n1 : Nat) (wr : World) (vs vf : Value) (F : List Src) : Prop where
  f : OwnL Src.cells 3 83 n1 wr vf F
  sep : ∀ k, vs.ownBlock = some k → vf.ownBlock ≠ some k
  sz : n1 ≤ wr.heap.size
section
variable {w wr w' : World} {be b g bd bc K N c n1 : Nat} {E4 D5 : List Value} {vs vs' v' vl vf : Value} {S S' : List Sec} {X X' F F' : List Src} {L L' : List Int}
theorem sep_row {v u : Value} (h : ∀ k, v.ownBlock = some k → u.ownBlock ≠ some k) : u.ownBlock = none ∨ u.ownBlock ≠ v.ownBlock := by
  cases hu : u.ownBlock with
  | none => exact .inl rfl
  | some k => exact .inr fun e => h k e.symm hu
theorem low_row {v : Value} {row : Option Nat} (hvs : ∀ k, v.ownBlock = some k → k < n1) (hr : ∀ k, row = some k → n1 ≤ k) : v.ownBlock = none ∨ v.ownBlock ≠ row := by
  cases hu : v.ownBlock with
  | none => exact .inl rfl
  | some k => exact .inr fun e => by have := hvs k hu; have := hr k e.symm; omega
theorem RepW.hi (h : RepW w be E4 D5 b g bd bc K N c wr vs S X) (o : RepO w be b g bd bc K) (hn : bc < n1) (hvs : ∀ k, vs.ownBlock = some k → k < n1) {row : Option Nat} (hg : wr.grownBy w' row) (hr : ∀ k, row = some k → n1 ≤ k) : RepW w be E4 D5 b g bd bc K N c w' vs S X := by
  obtain ⟨o0, o1, o2, o3, o3b, o4, o4g, o5, o5g⟩ := o
  have l := h.lt
  have ne : ∀ k, k < n1 → row ≠ some k := fun k hk e => by have := hr k e; omega
  exact ⟨h.bw.grown hg (by omega) (fun k hk => by have := hr k hk; omega), grown_row hg (by omega) (ne _ (by omega)) h.re, grown_row hg (by omega) (ne _ (by omega)) h.r2, grown_frozen hg (by omega) (ne _ (by omega)) h.f2, grown_row hg (by omega) (ne _ (by omega)) h.r3, grown_frozen hg (by omega) (ne _ (by omega)) h.f3, grown_row hg (by omega) (ne _ (by omega)) h.rd, grown_row hg (by omega) (ne _ (by omega)) h.rc, grown_frozen hg (by omega) (ne _ (by omega)) h.fc, OwnL.kept h.sec hg (.inr (fun e => ne g (by omega) e.symm)), OwnL.kept h.src hg (low_row hvs hr), h.hne, by have := hg.size; omega⟩
/-- ahead of the certificate's box -/
structure RepB (w : World) (be : Nat) (E4 D5 : List Value) (b g bd N c : Nat) (wr : World) (S : List Sec) : Prop where
  bw : Below w.heap.size w wr
  re : Row wr be E4
  r2 : Row wr b [.int .i64 0, .int .i64 0, .int .i64 0, .int .i64 0, .slice none 0 0]
  f2 : ∀ o, wr.frozen? ⟨b, o, none⟩ = false
  r3 : Row wr (b + 1) [.slice none 0 0]
  f3 : ∀ o, wr.frozen? ⟨b + 1, o, none⟩ = false
  rd : Row wr bd D5
  sec : SecOwn w.heap.size wr (.slice (some ⟨g, 0, none⟩) N c) S
  l0 : be ≤ b
  l1 : w.heap.size ≤ b
  l2 : b + 1 < g
  l3 : g ≠ bd
  l4 : b + 1 < bd
  l5 : bd < wr.heap.size
  l6 : g < wr.heap.size
theorem RepB.start (h : RepB w be E4 D5 b g bd N c wr S) : RepO w be b g bd (wr.heap.size + 1) wr.heap.size ∧ RepW w be E4 D5 b g bd (wr.heap.size + 1) wr.heap.size N c ((wr.alloc (.cells #[] 83)).alloc (.cells #[.slice (some ⟨wr.heap.size, 0, none⟩) 0 0] 47)) (.slice (some ⟨wr.heap.size, 0, none⟩) 0 0) S [] := by
  obtain ⟨bw, re, r2, f2, r3, f3, rd, sec, l0, l1, l2, l3, l4, l5, l6⟩ := h
  have hz := bw.size
  have b1 : Below wr.heap.size wr (wr.alloc (.cells #[] 83)) := Below.alloc (Below.refl _ _) (Nat.le_refl _) _
  have z1 : (wr.alloc (.cells #[] 83)).heap.size = wr.heap.size + 1 := by simp
  have b2 : Below (wr.alloc (.cells #[] 83)).heap.size (wr.alloc (.cells #[] 83)) ((wr.alloc (.cells #[] 83)).alloc (.cells #[.slice (some ⟨wr.heap.size, 0, none⟩) 0 0] 47)) := Below.alloc (Below.refl _ _) (Nat.le_refl _) _
  have hb := b1.trans (b2.mono b1.size)
  have rc := Row.alloc (wr.alloc (.cells #[] 83)) #[.slice (some ⟨wr.heap.size, 0, none⟩) 0 0] 47
  have fc := frozen_alloc (wr.alloc (.cells #[] 83)) #[.slice (some ⟨wr.heap.size, 0, none⟩) 0 0] 47
  rw [z1] at rc fc
  exact ⟨⟨l0, l1, l2, l3, l4, by omega, by omega, l5, l6⟩, ⟨bw.trans (hb.mono hz), re.below hb (by omega), r2.below hb (by omega), frozen_below f2 hb (by omega), r3.below hb (by omega), frozen_below f3 hb (by omega), rd.below hb l5, rc, fc, OwnL.below sec hb, OwnL.below (OwnL.of_empty (f := Src.cells) (z := 3) (e := 83) wr (Nat.le_refl _)) b2, (fun e0 => by have e1 : some wr.heap.size = some (wr.heap.size + 1) := e0; injection e1 with e1; omega), by simp⟩⟩
theorem box_at {wz w5 : World} {n : Nat} (hb : Below (wz.drew.alloc (.cells #[.int .i64 0, .int .i64 0, .int .i64 0, .int .i64 0, .slice none 0 0] 43)).heap.size (wz.drew.alloc (.cells #[.int .i64 0, .int .i64 0, .int .i64 0, .int .i64 0, .slice none 0 0] 43)) w5) (hz : wz.heap.size = n) : Row w5 n [.int .i64 0, .int .i64 0, .int .i64 0, .int .i64 0, .slice none 0 0] ∧ ∀ o, w5.frozen? ⟨n, o, none⟩ = false := by
  have hd : wz.drew.heap.size = n := hz
  have hR := Row.alloc wz.drew #[.int .i64 0, .int .i64 0, .int .i64 0, .int .i64 0, .slice none 0 0] 43
  have hF := frozen_alloc wz.drew #[.int .i64 0, .int .i64 0, .int .i64 0, .int .i64 0, .slice none 0 0] 43
  rw [hd] at hR hF
  exact ⟨hR.below hb (by simp [hd]), frozen_below hF hb (by simp [hd])⟩
theorem RpIn.below (h : RpIn n1 wr vl vf L F) (hb : Below wr.heap.size wr w') : RpIn n1 w' vl vf L F := ⟨OwnL.below h.l hb, OwnL.below h.f hb, h.sep, Nat.le_trans h.sz hb.size⟩
theorem RpIn.low (h : RpIn n1 wr vl vf L F) (hg : wr.grownBy w' (some g)) (hn : g < n1) : RpIn n1 w' vl vf L F :=
  ⟨OwnL.kept h.l hg (.inr (own_far h.l hn)), OwnL.kept h.f hg (.inr (own_far h.f hn)), h.sep, Nat.le_trans h.sz hg.size⟩
theorem RpIn.lt (h : RpIn n1 wr vl vf L F) : (∀ k, vl.ownBlock = some k → n1 ≤ k) ∧ (∀ k, vf.ownBlock = some k → n1 ≤ k) :=
  ⟨fun k hk => (World.ownsRow.lt h.l k hk).1, fun k hk => (World.ownsRow.lt h.f k hk).1⟩
theorem RpIn.appL (h : RpIn n1 wr vl vf L F) (hg : wr.grownBy w' vl.ownBlock) (hl : Int64L n1 w' v' L') (hat : v'.ownBlock = vl.ownBlock ∨ v'.ownBlock = some wr.heap.size) : RpIn n1 w' v' vf L' F :=
  ⟨hl, OwnL.kept h.f hg (sep_row h.sep), fun k hk => by
    rcases hat with e | e
    · exact h.sep k (e.symm.trans hk)
    · rw [hk] at e; injection e with e; intro e2; have := (World.ownsRow.lt h.f k e2).2; omega, Nat.le_trans h.sz hg.size⟩
theorem RpIn.appF (h : RpIn n1 wr vl vf L F) (hg : wr.grownBy w' vf.ownBlock) (hf : OwnL Src.cells 3 83 n1 w' v' F') (hat : v'.ownBlock = vf.ownBlock ∨ v'.ownBlock = some wr.heap.size) : RpIn n1 w' vl v' L F' :=
  ⟨OwnL.kept h.l hg (sep_row fun k hk e => h.sep k e hk), hf, fun k hk e0 => by
    rcases hat with e | e
    · exact h.sep k hk (e.symm.trans e0)
    · rw [e0] at e; injection e with e; have := (World.ownsRow.lt h.l k hk).2; omega, Nat.le_trans h.sz hg.size⟩
theorem RpOt.below (h : RpOt n1 wr vs vf F) (hb : Below wr.heap.size wr w') : RpOt n1 w' vs vf F := ⟨OwnL.below h.f hb, h.sep, Nat.le_trans h.sz hb.size⟩
theorem RpOt.app (h : RpOt n1 wr vs vf F) (hg : wr.grownBy w' vs.ownBlock) (hat : v'.ownBlock = vs.ownBlock ∨ v'.ownBlock = some wr.heap.size) (hbc : bc < n1) : RpOt n1 (w'.setCell ⟨bc, 0, none⟩ v') v' vf F :=
  ⟨OwnL.kept (OwnL.kept h.f hg (sep_row h.sep)) (gset (World.grownBy.refl w' (some bc)) _ _) (.inr (own_far h.f hbc)), fun k hk e0 => by
    rcases hat with e | e
    · exact h.sep k (e.symm.trans hk) e0
    · rw [hk] at e; injection e with e; have := (World.ownsRow.lt h.f k e0).2; omega, by rw [setCell_size]; exact Nat.le_trans h.sz hg.size⟩
theorem flt_takeT {F : List Src} {i : Nat} {s : Src} {p : Src → Bool} (h : F[i]? = some s) (hp : p s = true) : (F.take (i + 1)).filter p = (F.take i).filter p ++ [s] := by
  rw [List.take_add_one, h, List.filter_append]; simp [hp]
theorem flt_takeF {F : List Src} {i : Nat} {s : Src} {p : Src → Bool} (h : F[i]? = some s) (hp : p s = false) : (F.take (i + 1)).filter p = (F.take i).filter p := by
  rw [List.take_add_one, h, List.filter_append]; simp [hp]
theorem rpFd_len {e : Evd} {o : Nat} (n : Nat) : (rpFd e o n).length ≤ n := by
  unfold rpFd; exact Nat.le_trans (List.length_filterMap_le _ _) (by simp)
theorem rpY_len {e : Evd} {z : Sec} {P : Nat} (n : Nat) : (rpY e z P n).length ≤ n := by
  unfold rpY; exact Nat.le_trans (List.length_filterMap_le _ _) (by simp)
end
end Go.Proofs.YtfcdienphillnaaGreat
namespace Go.Proofs.YtfcdienphillnaaGreat
set_option linter.unusedVariables false
set_option linter.unusedSimpArgs false
open Go.RowKit
/-- the geometry of the first dump -/
def rdZ (e : Evd) : Dsc := e.ds.headD default
def rdS (e : Evd) : List Sec := rpS e (zSec (szN (rdZ e).size)) (rdZ e).per.toNat (rdZ e).secs.length (rdZ e).secs.length (rdZ e).secs.length
def rdX (e : Evd) : List Src := rpY e (zSec (szN (rdZ e).size)) (rdZ e).per.toNat (rdZ e).secs.length
def rdD (e : Evd) : Dsc := if evOk e = true then ⟨(rdZ e).cyl, (rdZ e).heads, (rdZ e).per, (rdZ e).size, rdS e⟩ else ⟨0, 0, 0, 0, []⟩
def rdY (e : Evd) : List Src := if evOk e = true then rdX e else []
def rdC (e : Evd) : Int := if evOk e = true then 0 else 1
def rdM (e : Evd) (k : Nat) : Bool := ((rdS e).getD k rpN).state == 3
def rpLo (e : Evd) : List Int := if evOk e = true then fltN (rdM e) (rdZ e).secs.length else []
structure RdF (e : Evd) (z : Dsc) (P m T N : Nat) : Prop where
  f : EvF e z P m T
  hn : T * P = N
  hz : rdZ e = z
  hp : z.per = (P : Int)
  hs : rdS e = rpS e (zSec m) P N N N
  hx : rdX e = rpY e (zSec m) P N
  hl : z.secs.length = N
  le : N ≤ 128
theorem rd_f {e : Evd} (h : evOk e = true) : ∃ z P m T N, RdF e z P m T N := by
  obtain ⟨z, P, m, T, F⟩ := ev_f h
  have hz : rdZ e = z := by
    have h0 := F.z0
    unfold rdZ
    cases hd : e.ds with
    | nil => rw [hd] at h0; simp at h0
    | cons a l => rw [hd] at h0; simpa using h0
  have hp : z.per = (P : Int) := F.per
  have hl : z.secs.length = T * P := F.secs
  have hm : szN z.size = m := F.siz.symm
  have hP : z.per.toNat = P := by rw [hp]; exact Int.toNat_natCast P
  exact ⟨z, P, m, T, T * P, F, rfl, hz, hp, by unfold rdS; rw [hz, hl, hm, hP], by unfold rdX; rw [hz, hl, hm, hP], hl, Nat.mul_le_mul F.t16 F.p8⟩
theorem rpLo_len {n : Nat} (e : Evd) (h : (rdZ e).secs.length ≤ n) : (rpLo e).length ≤ n := by
  unfold rpLo
  split
  · exact Nat.le_trans (flt_len _ _) h
  · simp
abbrev SixA (w : World) (bd bc : Nat) (a0 a1 a2 a3 a4 v : Value) : Prop := w.cell? ⟨bd, 0, none⟩ = some a0 ∧ w.cell? ⟨bd, 1, none⟩ = some a1 ∧ w.cell? ⟨bd, 2, none⟩ = some a2 ∧ w.cell? ⟨bd, 3, none⟩ = some a3 ∧ w.cell? ⟨bd, 4, none⟩ = some a4 ∧ w.cell? ⟨bc, 0, none⟩ = some v
end Go.Proofs.YtfcdienphillnaaGreat
