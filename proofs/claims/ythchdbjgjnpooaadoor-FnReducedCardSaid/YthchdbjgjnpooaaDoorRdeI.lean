/- ReduceEquations, impl: the walk. -/
import Derived.Test.YthchdbjgjnpooaaDoorRdeP
import Derived.Test.YthchdbjgjnpooaaDoorRedL
import Derived.Test.YthchdbjgjnpooaaDoorSortI
import Derived.Test.YthchdbjgjnpooaaDoorEqnW
namespace Go.Proofs.YthchdbjgjnpooaaDoor
set_option linter.unusedVariables false
set_option linter.unusedSimpArgs false
open Go.RowKit
set_option maxRecDepth 20000 in
set_option maxHeartbeats 8000000 in
theorem rde_i (B : Nat) (l : List Eqn) (v : Value) (u : Int) (w : World) (h : EqOwn B w v l) (hm : l.length ≤ 1048576) (hbl : ∀ e ∈ l, e.bits.length ≤ 1048576) (hu : -9223372036854775808 ≤ u ∧ u ≤ 9223372036854775807) (tab : Tz w) :
    Calls Tryd.prog 7 #[v, .int .i64 u] w fun e w' => REqS.retI w (rdE l u).1 (rdE l u).2 e w' := by
  obtain ⟨i0, hi, hz0, hz1, hz2⟩ := info_parts rowi_info
  obtain ⟨i1, ji, jz0, jz1, jz2⟩ := info_parts eqn_info
  have HA := Lib.hid (validE_i B l v u w h hm hbl hu)
  cases hok : validE l u
  · have HF := Lib.hid (rdE_no hok)
    rw [hok] at HA
    obtain ⟨A, cA, rfl, _⟩ := h
    go_enter Tryd.func7, Tryd.ntmps7
    go_wp2_with (fail)
    refine HA.out.mono ?_; rintro e w1 ⟨rfl, hb1⟩
    go_wp2
    exact bodyPost_ret (v := .tuple #[.slice none 0 0, .int .i64 1]) (by simp [results, Tryd.results7, go_sem]) rfl ⟨_, by rw [HF.out], by rw [HF.out]; exact ⟨[], rfl, EqT.nil _ _ _⟩, hb1⟩
  · obtain ⟨hl64, hva⟩ := valid_at hok
    have HV := Lib.hid hva
    have HLT := Lib.hid (eqnRw_lt hva)
    have HBL := Lib.hid hbl
    have HFN := Lib.hid (rdE_none hok)
    have HFS := Lib.hid (fun o => rdE_some (o := o) hok)
    have HTZ := Lib.hid tab
    rw [hok] at HA
    obtain ⟨A, cA, rfl, hA⟩ := h
    clear hok hva hm hbl tab
    go_enter Tryd.func7, Tryd.ntmps7
    go_wp2_with (fail)
    refine HA.out.mono ?_; rintro e w1 ⟨rfl, hb1⟩
    have z1 := hb1.size
    have HO0 : Hid (RowL .i64 47 w1.heap.size w1 (.slice none 0 0) (rwK l 0)) := Lib.hid OwnL.of_nil
    go_wp2
    go_loopw [22, 6] (fun i x wr => ∃ k : Nat, k ≤ l.length ∧ i = .int .i64 k ∧ Below w1.heap.size w1 wr ∧ Hid (RowL .i64 47 w1.heap.size wr x (rwK l k))) (fun i _ _ => l.length - (intOf i).toNat)
    case atStart => exact ⟨0, by omega, rfl, Below.refl _ _, HO0⟩
    case round =>
      clear HO0
      obtain ⟨k, hk, rfl, hb, HO⟩ := hrel
      have zr := hb.size
      have hbw := hb1.trans (hb.mono z1)
      obtain ⟨Ax, cx, hvx, _⟩ := OwnL.shape HO.out
      rw [rwK_len hk] at hvx
      subst hvx
      by_cases hlt : k < l.length
      · obtain ⟨e, he⟩ : ∃ e, l[k]? = some e := ⟨l[k], List.getElem?_eq_getElem hlt⟩
        obtain ⟨g, rfl, _, hg, hcc⟩ := hA.resolve_left (by intro h0; rw [h0] at hlt; simp at hlt)
        obtain ⟨bv, c1, c2, c3⟩ := hcc k e he
        have hbn := HBL.out e (List.mem_of_getElem? he)
        obtain ⟨hbits, hri⟩ := HV.out e (List.mem_of_getElem? he)
        have HBT := Lib.hid hbits
        have HN := Lib.hid (rwK_next he)
        have HMB := Lib.hid (maskB_lt hbits)
        have HM2 := Lib.hid (fun k => maskB_lt (l := e.bits.take k) (fun x hx => hbits x (List.mem_of_mem_take hx)))
        rw [hri] at c3
        have HE : Hid (eqnRw e = ⟨maskB e.bits, decide (e.right = 1)⟩) := Lib.hid rfl
        generalize decide (e.right = 1) = r at *
        obtain ⟨A2, cb, rfl, hA2⟩ := OwnL.shape c2
        have HC2 : Hid (∀ (j : Nat) (x : Int), e.bits[j]? = some x → ∃ gb, A2 = some ⟨gb, 0, none⟩ ∧ gb < w.heap.size ∧ w.cell? ⟨gb, j, none⟩ = some (.int .i64 x)) := Lib.hid (fun j x hj => by
          obtain ⟨gb, rfl, _, hgb⟩ := hA2.resolve_left (by intro h0; rw [h0] at hj; simp at hj)
          have := OwnL.at1 icell_len c2 hj (j := 0) rfl
          exact ⟨gb, rfl, hgb, by simpa using this⟩)
        have q0 := (hbw.cell (p := ⟨g, _, none⟩) hg).trans c1
        have q1 := (hbw.cell (p := ⟨g, _, none⟩) hg).trans c3
        generalize hbe : e.bits = bl at *
        generalize hri2 : bi r = rr at *
        have HRI := Lib.hid hri2
        clear c1 c2 c3 hcc he hbits hri hA2 hbe hri2
        generalize hwo : wr = wo at *; clear hwo
        have HB0 : Below wo.heap.size wo ((wo.alloc (.cells #[.slice A2 bl.length cb, .int .i64 rr] 34)).alloc (.cells #[.int .u64 0, .int .i64 rr] 47)) := Below.alloc (Below.alloc (Below.refl _ _) (Nat.le_refl _) _) (by simp) _
        have HX0 : ((wo.alloc (.cells #[.slice A2 bl.length cb, .int .i64 rr] 34)).alloc (.cells #[.int .u64 0, .int .i64 rr] 47)).cell? ⟨wo.heap.size + 1, 0, none⟩ = some (.int .u64 (maskB (bl.take 0) : Nat)) := by simp [go_sem, maskB]
        go_wp2
        go_loopw [32] (fun i wx => ∃ j : Nat, j ≤ bl.length ∧ i = .int .i64 j ∧ Below wo.heap.size wo wx ∧ wo.heap.size + 1 < wx.heap.size ∧ wx.cell? ⟨wo.heap.size + 1, 0, none⟩ = some (.int .u64 (maskB (bl.take j) : Nat)) ∧ wx.cell? ⟨wo.heap.size + 1, 1, none⟩ = some (.int .i64 rr) ∧ wx.frozen? ⟨wo.heap.size + 1, 0, none⟩ = false) (fun i _ => bl.length - (intOf i).toNat)
        case atStart => exact ⟨0, by omega, rfl, HB0, by simp, HX0, by simp [go_sem], by simp [go_sem]⟩
        case round =>
          clear HX0 HB0
          obtain ⟨j, hj, rfl, hbx, zx, p0, p1, f0⟩ := hrel
          by_cases hltj : j < bl.length
          · obtain ⟨x, hx⟩ : ∃ x, bl[j]? = some x := ⟨bl[j], List.getElem?_eq_getElem hltj⟩
            obtain ⟨hx0, hx1⟩ := HBT.out x (List.mem_of_getElem? hx)
            obtain ⟨q, rfl⟩ := Int.eq_ofNat_of_zero_le hx0
            obtain ⟨gb, rfl, hgb, hcb⟩ := HC2.out j _ hx
            have r1 := (hbx.cell (p := ⟨gb, j, none⟩) (Nat.lt_of_lt_of_le hgb hbw.size)).trans ((hbw.cell (p := ⟨gb, j, none⟩) hgb).trans hcb)
            have hq : q < 64 := by omega
            have hor := u64_or_nat (maskB (bl.take j)) (2 ^ q) (HM2.out j) (Nat.lt_of_lt_of_le (Nat.pow_lt_pow_right (by omega) hq) (by decide))
            rw [← maskB_next hx, ← wrap_pow q hq] at hor
            have hmin : min q 64 = q := Nat.min_eq_left (by omega)
            obtain ⟨m1, hm1⟩ : ∃ m1, maskB (bl.take (j + 1)) = m1 := ⟨_, rfl⟩
            have HM1 := Lib.hid hm1
            rw [hm1] at hor
            clear hm1
            generalize maskB (bl.take j) = m0 at *
            clear hx hcb
            go_wp2
            go_still_tail 6, (by kernel_rfl)
            go_wp2
            go_roundw
            case rel => exact ⟨j + 1, by omega, by go_num, (Below.setCell hbx (p := ⟨wo.heap.size + 1, 0, none⟩) (Nat.le_succ _) _).drew, by simp; omega, by rw [HM1.out]; exact World.cell?_setCell_same wr _ _ p0, (World.cell?_setCell_other wr _ _ _ (by intro e; injection e with _ e _; omega)).trans p1, (World.frozen?_setCell wr _ _ _).trans f0⟩
            case measure => simp [intOf]; omega
          · obtain rfl : j = bl.length := by omega
            have hbo : Below w1.heap.size w1 wr := hb.trans (hbx.mono zr)
            have zx2 := hbx.size
            have HO2 := Lib.hid (OwnL.below HO.out hbx)
            rw [List.take_length] at p0
            have hkl : (rwK l k).length ≤ 64 := by rw [rwK_len hk]; omega
            generalize maskB bl = mb at *
            have hri3 := HRI.out
            subst hri3
            go_wp2_with (at_builtin; refine wpList_app1 (rc .i64) 2 (rc_len .i64) _ rfl _ _ _ rfl w1.heap.size 47 i0 (.agg #[.int .u64 0, .int .i64 0]) 16 Tryd.underlying44 hi hz0 hz1 hz2 rfl (by decide) _ (rwK l k) rfl (HO2.out.alloc _) _ 1 ⟨mb, r⟩ rfl ?_ (rc_one .i64 _) (by omega) (by omega) (by simp; omega) ?_; (· exact rowc_news .i64 mb r (by simp) (by simp)); intro v' w8 how8 hg8; have hg8' : Below w1.heap.size w1 w8 := own_grown_below (HO2.out.alloc (.cells #[.int .u64 mb, .int .i64 (bi r)] 47)) (Below.alloc hbo (by omega) _) hg8 (Nat.le_refl _) (by simp; omega); clear hg8)
            go_roundw
            case rel => exact ⟨k + 1, by omega, by go_num, hg8', by rw [HN.out, HE.out]; exact Lib.hid how8⟩
            case measure => simp [intOf]; omega
      · obtain rfl : k = l.length := by omega
        rw [rwK_end] at HO
        have HR := Lib.hid (redl_i (l.map eqnRw) _ wr (RowsAt.own HO.out) HLT.out (by rw [List.length_map]; omega))
        have hbo : Below w.heap.size w wr := hbw
        have HBO := Lib.hid (red_both piv_low (u := 64) (Nat.le_refl _) HLT.out)
        have HTB := Lib.hid (HTZ.out.below hbo)
        clear HO HLT hb
        unfold redQ at HR
        rcases HBO.out with ⟨hX, hX2, _⟩ | ⟨a, b, hX, hX2, ra, rb, sb, ha1, hb1', sa, sb', hab, hal⟩
        · have HF := Lib.hid (HFN.out hX2)
          rw [hX] at HR
          clear hX hX2 HBO
          go_wp2_with (fail)
          refine HR.out.mono ?_; rintro e w3 ⟨v3, rfl, o3, hb3⟩
          obtain ⟨A3, c3, rfl, _⟩ := OwnL.shape o3
          clear o3
          go_wp2
          exact bodyPost_ret (v := .tuple #[.slice none 0 0, .int .i64 3]) (by simp [results, Tryd.results7, go_sem]) rfl ⟨_, by rw [HF.out], by rw [HF.out]; exact ⟨[], rfl, EqT.nil _ _ _⟩, hbo.trans (hb3.mono hbw.size)⟩
        · have HF := Lib.hid (HFS.out b hX2)
          rw [List.length_map] at hal
          rw [hX] at HR
          have HSS : Hid (∀ d' : List Rw, Red low d' → Srt d' → (∀ x, Sol d' x ↔ Sol a x) → d' = b) := Lib.hid (fun d' h1 h2 h3 => red_one h1 rb h2 sb (fun x => ((h3 x).trans (sa x)).trans (sb' x).symm))
          have HB1 := Lib.hid hb1'
          have HRA := Lib.hid ra
          have hbl64 : b.length ≤ 64 := by omega
          clear hX hX2 HBO rb sb ha1 hb1' sa sb' ra
          go_wp2_with (fail)
          refine HR.out.mono ?_; rintro e w3 ⟨v3, rfl, o3, hb3⟩
          have hb03 := hbo.trans (hb3.mono hbw.size)
          have z3 := hb03.size
          have o3' : RowL .i64 47 wr.heap.size w3 v3 a := o3
          clear o3
          obtain ⟨d, hd⟩ := as_rows HRA.out
          have HD := Lib.hid hd
          have hds : d.size = a.length := by rw [← hd, rwL_len]
          obtain ⟨A3, c3, rfl, hA3⟩ := OwnL.shape o3'
          have HT3 := Lib.hid (HTB.out.below hb3)
          have hzT : 0 < wr.heap.size := HTB.out.lt
          have HSORT : Hid (Calls Tryd.prog 23 #[.slice A3 a.length c3, .func (.func 24) #[] #[]] w3 fun e w' => e = .returned (.tuple #[]) ∧ RowL .i64 47 wr.heap.size w' (.slice A3 a.length c3) b ∧ Below wr.heap.size w3 w') := by
            refine Lib.hid ?_
            by_cases ha0 : a = []
            · subst ha0
              obtain rfl : b = [] := List.eq_nil_of_length_eq_zero (by simpa using hab.symm)
              refine (sort_none c3 A3 w3).mono ?_
              rintro e w' ⟨rfl, rfl⟩
              exact ⟨rfl, o3', Below.refl _ _⟩
            · obtain ⟨g3, rfl, _⟩ := hA3.resolve_left ha0
              rw [← hds]
              have o4 : OwnL (rc .i64) 2 47 wr.heap.size w3 (.slice (some ⟨g3, 0, none⟩) d.size c3) (rwL d) := by rw [HD.out, hds]; exact o3'
              refine (sort_i 47 wr.heap.size g3 c3 d w3 o4 (by rw [HD.out]; exact HRA.out) (by omega) HT3.out hzT).mono ?_
              rintro e w' ⟨rfl, ⟨d', hsz, h1, h2, h3, h4⟩, h5⟩
              refine ⟨rfl, ?_, h5⟩
              rw [← HSS.out (rwL d') h2 h3 (fun x => by rw [h4 x, HD.out])]
              exact h1
          clear hA3 HTB HT3 hd HD hds o3'
          rw [hab] at HSORT ⊢
          go_wp2_with (fail)
          refine HSORT.out.mono ?_; rintro e w4 ⟨rfl, o4, hb4⟩
          have hb04 := hb03.trans (hb4.mono hbw.size)
          have z4 := hb04.size
          have hRA4 := RowsAt.own o4
          clear o4
          obtain ⟨A4, c4, hv4, hA4⟩ := hRA4
          injection hv4 with e1 e2 e3
          subst e1 e3
          clear e2 HSORT
          have hbl' : b.length ≤ 16777216 := by omega
          generalize b = R at *
          go_wp2
          go_loopw [59, 13] (fun i x wr => ∃ (k : Nat) (pl : List (Eqn × Value)), k ≤ R.length ∧ i = .int .i64 k ∧ Below w4.heap.size w4 wr ∧ Hid (EqT w4.heap.size wr.heap.size wr x pl) ∧ Hid (pl.map Prod.fst = (R.take k).map rowEqn)) (fun i _ _ => R.length - (intOf i).toNat)
          case atStart => exact ⟨0, [], by omega, rfl, Below.refl _ _, Lib.hid (EqT.nil _ _ _), Lib.hid rfl⟩
          case round =>
            obtain ⟨k, pl, hk, rfl, hb2', HT, HP⟩ := hrel
            have zr := hb2'.size
            have hpl := rows_len HP.out
            obtain ⟨Ao, co, rfl, _⟩ := OwnL.shape HT.out.row
            by_cases hlt : k < R.length
            · obtain ⟨e, he⟩ : ∃ e, R[k]? = some e := ⟨R[k], List.getElem?_eq_getElem hlt⟩
              obtain ⟨g, rfl, hg, hcc⟩ := hA4.resolve_left (by intro h0; rw [h0] at hlt; simp at hlt)
              have HPN := Lib.hid (fun bv => rows_take (bv := bv) HP.out he)
              have k0 := (hb2'.cell (p := ⟨g, _, none⟩) hg).trans (hcc k e he).1
              have k1 := (hb2'.cell (p := ⟨g, _, none⟩) hg).trans (hcc k e he).2
              have hem := HB1.out e (List.mem_of_getElem? he)
              have HEQ := Lib.hid (fun W => equation_i e.m (bi e.r) W hem)
              have HRB : Hid ((rowEqn e).bits = intsN (bitsK e.m 64)) := Lib.hid rfl
              have HRR : Hid ((rowEqn e).right = bi e.r) := Lib.hid rfl
              generalize rowEqn e = R1 at *
              generalize e.m = m at *
              generalize bi e.r = r at *
              generalize hwo : wr = wo at *; clear hwo
              have hB0 : Below wo.heap.size wo (wo.alloc (.cells #[.int .u64 m, .int .i64 r] 47)) := Below.alloc (Below.refl _ _) (Nat.le_refl _) _
              clear he hcc
              go_wp2_with (fail)
              refine (HEQ.out _).mono ?_; rintro e' w3' ⟨A3', n3, c3', rfl, o3', hb3'⟩
              have HO3 := Lib.hid o3'
              have hB3 : Below wo.heap.size wo w3' := hB0.trans (hb3'.mono hB0.size)
              have hbT : Below wo.heap.size wo (w3'.alloc (.cells #[.slice A3' n3 c3', .int .i64 r] 34)) := Below.alloc hB3 hB3.size _
              have HT2 := Lib.hid (HT.out.below hbT)
              have hbase := Nat.le_trans zr hbT.size
              have hB0s := hB0.size
              have HBV := Lib.hid (OwnL.base (OwnL.alloc HO3.out (.cells #[.slice A3' n3 c3', .int .i64 r] 34)) (Nat.le_trans zr hB0s))
              have HBN := Lib.hid (fun b (hb : (Value.slice A3' n3 c3').ownBlock = some b) => Nat.le_trans hB0s (World.ownsRow.lt HO3.out b hb).1)
              have hp1 : pl.length + 1 ≤ 16777216 := by omega
              have hone : ∀ u ∈ epc (R1, .slice A3' n3 c3'), u.oneCell' = true := eqn_one _ ⟨_, _, _, rfl⟩
              clear o3' hb3' hB0 hB0s
              go_wp2_with (at_builtin; refine wpList_app1at epc 2 epc_len _ rfl _ _ _ rfl w4.heap.size 34 i1 (.agg #[.slice none 0 0, .int .i64 0]) 32 Tryd.underlying24 ji jz0 jz1 jz2 rfl (by decide) _ pl rfl HT2.out.row _ 1 (R1, .slice A3' n3 c3') rfl ?_ hone hp1 (by decide) hbase ?_; (· exact epc_news (by simp [go_sem]) (by rw [HRR.out]; simp [go_sem])); intro v' w8 how8 hg8 hbl8; have HT8 := Lib.hid (EqT.snoc HT2.out hbT.size (e := R1) (bv := .slice A3' n3 c3') (by rw [HRB.out]; exact HBV.out) HBN.out how8 hg8 hbl8); have hb8 : Below w4.heap.size w4 w8 := own_grown_below HT2.out.row (hb2'.trans (hbT.mono zr)) hg8 (Nat.le_refl _) hbase; clear how8 hg8 hbl8)
              go_roundw
              case rel => exact ⟨k + 1, _, by omega, by go_num, hb8, HT8, Lib.hid (HPN.out _)⟩
              case measure => simp [intOf]; omega
            · obtain rfl : k = R.length := by omega
              go_wp2
              exact bodyPost_ret (v := .tuple #[.slice Ao pl.length co, .int .i64 0]) (by simp [results, Tryd.results7, go_sem]) rfl ⟨_, by rw [HF.out], by rw [HF.out]; exact ⟨pl, by rw [HP.out, List.take_length], ⟨OwnL.base HT.out.row z4, HT.out.lt, fun j p hj => ⟨OwnL.base (HT.out.parts j p hj).1 z4, (HT.out.parts j p hj).2⟩, HT.out.split⟩⟩, hb04.trans (hb2'.mono z4)⟩
end Go.Proofs.YthchdbjgjnpooaaDoor
