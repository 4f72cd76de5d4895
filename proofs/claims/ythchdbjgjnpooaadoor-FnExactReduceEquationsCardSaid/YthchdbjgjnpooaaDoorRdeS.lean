/- ReduceEquations, spec: the walk. -/
import Derived.Test.YthchdbjgjnpooaaDoorRdeP
import Derived.Test.YthchdbjgjnpooaaDoorRedS
namespace Go.Proofs.YthchdbjgjnpooaaDoor
set_option linter.unusedVariables false
set_option linter.unusedSimpArgs false
open Go.RowKit
theorem bi_wrap_u2 (b : Bool) : IntKind.u64.wrap (bi b) = bi b := by cases b <;> decide
set_option maxRecDepth 20000 in
set_option maxHeartbeats 8000000 in
theorem rde_s (B : Nat) (l : List Eqn) (v : Value) (u : Int) (w : World) (h : EqOwn B w v l) (hm : l.length ≤ 1048576) (hbl : ∀ e ∈ l, e.bits.length ≤ 1048576) (hu : -9223372036854775808 ≤ u ∧ u ≤ 9223372036854775807) :
    Calls Tryd.prog 13 #[v, .int .i64 u] w fun e w' => REqS.retI w (rdE l u).1 (rdE l u).2 e w' := by
  obtain ⟨i0, hi, hz0, hz1, hz2⟩ := info_parts rowu_info
  have HA := Lib.hid (validE_s B l v u w h hm hbl hu)
  cases hok : validE l u
  · have HF := Lib.hid (rdE_no hok)
    rw [hok] at HA
    obtain ⟨A, cA, rfl, _⟩ := h
    go_enter Tryd.func13, Tryd.ntmps13
    go_wp2_with (fail)
    refine HA.out.mono ?_; rintro e w1 ⟨rfl, hb1⟩
    go_wp2
    exact bodyPost_ret (v := .tuple #[.slice none 0 0, .int .i64 1]) (by simp [results, Tryd.results13, go_sem]) rfl ⟨_, by rw [HF.out], by rw [HF.out]; exact ⟨[], rfl, EqT.nil _ _ _⟩, hb1⟩
  · obtain ⟨hl64, hva⟩ := valid_at hok
    have HV := Lib.hid hva
    have HLT := Lib.hid (eqnRw_lt hva)
    have HBL := Lib.hid hbl
    have HFN := Lib.hid (rdE_none hok)
    have HFS := Lib.hid (fun o => rdE_some (o := o) hok)
    rw [hok] at HA
    obtain ⟨A, cA, rfl, hA⟩ := h
    clear hok hva hm hbl
    go_enter Tryd.func13, Tryd.ntmps13
    go_wp2_with (fail)
    refine HA.out.mono ?_; rintro e w1 ⟨rfl, hb1⟩
    have z1 := hb1.size
    have HO0 : Hid (RowL .u64 61 w1.heap.size (w1.alloc (.cells #[] 61)) (.slice (some ⟨w1.heap.size, 0, none⟩) 0 0) (rwK l 0)) := Lib.hid (OwnL.of_empty w1 (Nat.le_refl _))
    have hB0 : Below w1.heap.size w1 (w1.alloc (.cells #[] 61)) := Below.alloc (Below.refl _ _) (Nat.le_refl _) _
    go_wp2
    go_loopw [7, 6] (fun i x wr => ∃ k : Nat, k ≤ l.length ∧ i = .int .i64 k ∧ Below w1.heap.size w1 wr ∧ Hid (RowL .u64 61 w1.heap.size wr x (rwK l k))) (fun i _ _ => l.length - (intOf i).toNat)
    case atStart => exact ⟨0, by omega, rfl, hB0, HO0⟩
    case round =>
      clear HO0 hB0
      obtain ⟨k, hk, rfl, hb, HO⟩ := hrel
      have zr := hb.size
      have hbw := hb1.trans (hb.mono z1)
      obtain ⟨Ax, cx, hvx, _⟩ := OwnL.shape HO.out
      rw [rwK_len hk] at hvx
      subst hvx
      by_cases hlt : k < l.length
      · obtain ⟨e, he⟩ : ∃ e, l[k]? = some e := ⟨l[k], List.getElem?_eq_getElem hlt⟩
        obtain ⟨g, rfl, _, hg, hcc⟩ := hA.resolve_left (by intro h0; rw [h0] at hlt; simp at hlt)
        obtain ⟨bv, c1, c2, c3⟩ := hcc k e he
        have hbn := HBL.out e (List.mem_of_getElem? he)
        obtain ⟨hbits, hri⟩ := HV.out e (List.mem_of_getElem? he)
        have HBT := Lib.hid hbits
        have HN := Lib.hid (rwK_next he)
        have HMB := Lib.hid (maskB_lt hbits)
        have HM2 := Lib.hid (fun k => maskB_lt (l := e.bits.take k) (fun x hx => hbits x (List.mem_of_mem_take hx)))
        rw [hri] at c3
        have hwu := bi_wrap_u2 (decide (e.right = 1))
        have HE : Hid (eqnRw e = ⟨maskB e.bits, decide (e.right = 1)⟩) := Lib.hid rfl
        generalize decide (e.right = 1) = r at *
        obtain ⟨A2, cb, rfl, hA2⟩ := OwnL.shape c2
        have HC2 : Hid (∀ (j : Nat) (x : Int), e.bits[j]? = some x → ∃ gb, A2 = some ⟨gb, 0, none⟩ ∧ gb < w.heap.size ∧ w.cell? ⟨gb, j, none⟩ = some (.int .i64 x)) := Lib.hid (fun j x hj => by
          obtain ⟨gb, rfl, _, hgb⟩ := hA2.resolve_left (by intro h0; rw [h0] at hj; simp at hj)
          have := OwnL.at1 icell_len c2 hj (j := 0) rfl
          exact ⟨gb, rfl, hgb, by simpa using this⟩)
        have q0 := (hbw.cell (p := ⟨g, _, none⟩) hg).trans c1
        have q1 := (hbw.cell (p := ⟨g, _, none⟩) hg).trans c3
        have hgw : g < wr.heap.size := Nat.lt_of_lt_of_le hg hbw.size
        generalize hbe : e.bits = bl at *
        clear c1 c2 c3 hcc he hbits hri hA2 hbe
        go_wp2
        generalize hwo : wr = wo at *; clear hwo
        have HX0 : (wo.alloc (.cells #[.int .u64 0, .int .u64 (bi r)] 61)).cell? ⟨wo.heap.size, 0, none⟩ = some (.int .u64 (maskB (bl.take 0) : Nat)) := by simp [go_sem, maskB]
        go_loopw [9] (fun i wx => ∃ j : Nat, j ≤ bl.length ∧ i = .int .i64 j ∧ Below wo.heap.size wo wx ∧ wo.heap.size < wx.heap.size ∧ wx.cell? ⟨wo.heap.size, 0, none⟩ = some (.int .u64 (maskB (bl.take j) : Nat)) ∧ wx.cell? ⟨wo.heap.size, 1, none⟩ = some (.int .u64 (bi r)) ∧ wx.frozen? ⟨wo.heap.size, 0, none⟩ = false) (fun i _ => bl.length - (intOf i).toNat)
        case atStart => exact ⟨0, by omega, rfl, Below.alloc (Below.refl _ _) (Nat.le_refl _) _, by simp, HX0, by simp [go_sem], by simp [go_sem]⟩
        case round =>
          clear HX0
          obtain ⟨j, hj, rfl, hbx, zx, p0, p1, f0⟩ := hrel
          have r0 := (hbx.cell (p := ⟨g, k * 2, none⟩) hgw).trans q0
          by_cases hltj : j < bl.length
          · obtain ⟨x, hx⟩ : ∃ x, bl[j]? = some x := ⟨bl[j], List.getElem?_eq_getElem hltj⟩
            obtain ⟨hx0, hx1⟩ := HBT.out x (List.mem_of_getElem? hx)
            obtain ⟨q, rfl⟩ := Int.eq_ofNat_of_zero_le hx0
            obtain ⟨gb, rfl, hgb, hcb⟩ := HC2.out j _ hx
            have r1 := (hbx.cell (p := ⟨gb, j, none⟩) (Nat.lt_of_lt_of_le hgb hbw.size)).trans ((hbw.cell (p := ⟨gb, j, none⟩) hgb).trans hcb)
            have hq : q < 64 := by omega
            have hor := u64_or_nat (maskB (bl.take j)) (2 ^ q) (HM2.out j) (Nat.lt_of_lt_of_le (Nat.pow_lt_pow_right (by omega) hq) (by decide))
            rw [← maskB_next hx, ← wrap_pow q hq] at hor
            have hmin : min q 64 = q := Nat.min_eq_left (by omega)
            obtain ⟨m1, hm1⟩ : ∃ m1, maskB (bl.take (j + 1)) = m1 := ⟨_, rfl⟩
            have HM1 := Lib.hid hm1
            rw [hm1] at hor
            clear hm1
            generalize maskB (bl.take j) = m0 at *
            clear hx hcb
            go_wp2
            go_still_tail 14, (by kernel_rfl)
            go_wp2
            go_roundw
            case rel => exact ⟨j + 1, by omega, by go_num, (Below.setCell hbx (p := ⟨wo.heap.size, 0, none⟩) (Nat.le_refl _) _).drew, by simp; omega, by rw [HM1.out]; exact World.cell?_setCell_same wr _ _ p0, (World.cell?_setCell_other wr _ _ _ (by intro e; injection e with _ e _; omega)).trans p1, (World.frozen?_setCell wr _ _ _).trans f0⟩
            case measure => simp [intOf]; omega
          · obtain rfl : j = bl.length := by omega
            have hbo : Below w1.heap.size w1 wr := hb.trans (hbx.mono zr)
            have zx2 := hbx.size
            have HO2 := Lib.hid (OwnL.below HO.out hbx)
            rw [List.take_length] at p0
            have hkl : (rwK l k).length ≤ 64 := by rw [rwK_len hk]; omega
            generalize maskB bl = mb at *
            go_wp2_with (at_builtin; refine wpList_app1 (rc .u64) 2 (rc_len .u64) _ rfl _ _ _ rfl w1.heap.size 61 i0 (.agg #[.int .u64 0, .int .u64 0]) 16 Tryd.underlying59 hi hz0 hz1 hz2 rfl (by decide) _ (rwK l k) rfl (HO2.out.alloc _) _ 1 ⟨mb, r⟩ rfl ?_ (rc_one .u64 _) (by omega) (by omega) (by simp; omega) ?_; (· exact rowc_news .u64 mb r (by simp) (by simp)); intro v' w8 how8 hg8; have hg8' : Below w1.heap.size w1 w8 := own_grown_below (HO2.out.alloc (.cells #[.int .u64 mb, .int .u64 (bi r)] 61)) (Below.alloc hbo (by omega) _) hg8 (Nat.le_refl _) (by simp; omega); clear hg8)
            go_roundw
            case rel => exact ⟨k + 1, by omega, by go_num, hg8', by rw [HN.out, HE.out]; exact Lib.hid how8⟩
            case measure => simp [intOf]; omega
      · obtain rfl : k = l.length := by omega
        rw [rwK_end] at HO
        have HR := Lib.hid (red_s w1.heap.size (l.map eqnRw) _ wr HO.out HLT.out (by rw [List.length_map]; omega))
        have hbo : Below w.heap.size w wr := hbw
        have HLS := Lib.hid (fun o => redS_ok (u := 64) (Nat.le_refl _) HLT.out (o := o))
        clear HO HLT hb
        unfold redQ at HR
        cases hX : redS (l.map eqnRw) with
        | none =>
          have HF := Lib.hid (HFN.out hX)
          rw [hX] at HR
          clear hX
          go_wp2_with (fail)
          refine HR.out.mono ?_; rintro e w3 ⟨v3, rfl, o3, hb3⟩
          go_wp2
          exact bodyPost_ret (v := .tuple #[.slice none 0 0, .int .i64 3]) (by simp [results, Tryd.results13, go_sem]) rfl ⟨_, by rw [HF.out], by rw [HF.out]; exact ⟨[], rfl, EqT.nil _ _ _⟩, hbo.trans (hb3.mono hbw.size)⟩
        | some o =>
          have HF := Lib.hid (HFS.out o hX)
          obtain ⟨_, _, ho1, _, ho2⟩ := HLS.out _ hX
          rw [List.length_map] at ho2
          have HQ := Lib.hid (fun W v (h : RowsAt .u64 W v o) => eqns_s o v W h ho1 (by omega))
          rw [hX] at HR
          clear hX ho1
          go_wp2_with (fail)
          refine HR.out.mono ?_; rintro e w3 ⟨v3, rfl, o3, hb3⟩
          have hb03 := hbo.trans (hb3.mono hbw.size)
          have z3 := hb03.size
          have HRA := Lib.hid (RowsAt.own o3)
          obtain ⟨A3, c3, rfl, _⟩ := OwnL.shape o3
          clear o3
          go_wp2_with (fail)
          refine (HQ.out _ _ HRA.out).mono ?_; rintro e w4 ⟨v4, rfl, o4, hb4⟩
          obtain ⟨pl, hp, ht⟩ := o4
          obtain ⟨A4, c4, rfl, _⟩ := OwnL.shape ht.row
          have HT := Lib.hid ht
          have HP := Lib.hid hp
          clear ht hp
          go_wp2
          exact bodyPost_ret (v := .tuple #[.slice A4 pl.length c4, .int .i64 0]) (by simp [results, Tryd.results13, go_sem]) rfl ⟨_, by rw [HF.out], by rw [HF.out]; exact ⟨pl, HP.out, ⟨OwnL.base HT.out.row z3, HT.out.lt, fun j p hj => ⟨OwnL.base (HT.out.parts j p hj).1 z3, (HT.out.parts j p hj).2⟩, HT.out.split⟩⟩, hb03.trans (hb4.mono z3)⟩
end Go.Proofs.YthchdbjgjnpooaaDoor
