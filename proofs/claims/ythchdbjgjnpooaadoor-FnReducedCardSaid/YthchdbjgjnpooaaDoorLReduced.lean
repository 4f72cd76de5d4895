/- FnReduced: the walk. -/
import Derived.Test.YthchdbjgjnpooaaDoorHoldI
import Derived.Test.YthchdbjgjnpooaaDoorRdeI
namespace Go.Proofs.YthchdbjgjnpooaaDoor
set_option linter.unusedVariables false
set_option linter.unusedSimpArgs false
open Go.RowKit
/-- where the bits and right sides of equations lie -/
structure Lie (w : World) (g : Nat) (o : List Rw) : Prop where
  gw : g < w.heap.size
  at_ : ∀ (i : Nat) (e : Rw), o[i]? = some e → ∃ bv, w.cell? ⟨g, i * 2, none⟩ = some bv ∧ Int64L 0 w bv (intsN (bitsK e.m 64)) ∧ w.cell? ⟨g, i * 2 + 1, none⟩ = some (.int .i64 (bi e.r))
theorem Lie.below {w w' : World} {g : Nat} {o : List Rw} (h : Lie w g o) (hb : Below w.heap.size w w') : Lie w' g o :=
  ⟨Nat.lt_of_lt_of_le h.gw hb.size, fun i e he => by
    obtain ⟨bv, p, q, r⟩ := h.at_ i e he
    exact ⟨bv, bel_cell p hb, OwnL.below q hb, bel_cell r hb⟩⟩
theorem Lie.of {B : Nat} {w : World} {v : Value} {o : List Rw} (h : EqOwn B w v (o.map rowEqn)) : ∃ A c, v = .slice A o.length c ∧ (o ≠ [] → ∃ g, A = some ⟨g, 0, none⟩ ∧ Lie w g o) := by
  obtain ⟨A, c, rfl, hA⟩ := h
  refine ⟨A, c, by rw [List.length_map], fun h0 => ?_⟩
  obtain ⟨g, rfl, _, hg, hc⟩ := hA.resolve_left (by intro e; exact h0 (List.map_eq_nil_iff.1 e))
  exact ⟨g, rfl, hg, fun i e he => by
    obtain ⟨bv, p, q, r⟩ := hc i (rowEqn e) (by rw [List.getElem?_map, he]; rfl)
    exact ⟨bv, p, OwnL.base q (Nat.zero_le _), r⟩⟩
set_option maxRecDepth 20000 in
set_option maxHeartbeats 8000000 in
theorem walkFnReduced (A A2 : Option Addr) (n c n2 c2 : Nat) (w : World) (tab : Tz w) (h1 : BytesIn w A n) (h2 : BytesIn w A2 n2) (hm : n ≤ maxLen) (hm2 : n2 ≤ maxLen) :
    Calls Tryd.prog 3 #[.slice A n c, .slice A2 n2 c2] w fun e w' => e = .returned (.bool true) ∧ Below w.heap.size w w' := by
  have HL := a2long A A2 n c n2 c2 w hm hm2
  cases hlong : (decide (3000 < n) || decide (3000 < n2))
  rotate_left
  · rw [hlong] at HL
    go_enter Tryd.func3, Tryd.ntmps3
    go_wp2_with (go_at_call 5; refine HL.mono ?_; rintro e w1 ⟨rfl, rfl⟩)
    go_ret
    exact ⟨rfl, Below.refl _ _⟩
  · rw [hlong] at HL
    simp only [Bool.or_eq_false_iff, decide_eq_false_iff_not] at hlong
    have hn1 : n ≤ 3000 := by omega
    have hn2 : n2 ≤ 3000 := by omega
    clear hlong hm hm2
    obtain ⟨i0, hi, hz0, hz1, hz2⟩ := info_parts icell_info
    have HTZ := Lib.hid tab
    clear tab
    go_enter Tryd.func3, Tryd.ntmps3
    go_wp2_with (go_at_call 5; refine HL.mono ?_; rintro e w1 ⟨rfl, rfl⟩)
    refine (a2eqns_s A n c _ h1 (by omega)).mono ?_; rintro e w1 ⟨v, l, N, rfl, hE, hv, hl, hbl, hb1⟩
    obtain ⟨N', hN', hN64, _, hok⟩ := valid_ok hv
    obtain rfl : N = N' := by omega
    have z1 := hb1.size
    have HE := Lib.hid hE
    have HOK := Lib.hid hok
    have HBL := Lib.hid (fun e he => Nat.le_trans (hbl e he) (show 8 ≤ 1048576 by omega))
    have H2 := Lib.hid (h2.below hb1 (Nat.le_refl _))
    have HLAW := Lib.hid (rd_law hv)
    have HRI := Lib.hid (fun (W : World) (hb : Below w1.heap.size w1 W) => rde_i _ l v N W (hE.below hb) (by omega) HBL.out (by omega) ((HTZ.out.below hb1).below hb))
    obtain ⟨Av, cv, rfl, _⟩ := hE
    clear h1 h2 hv hok hbl hN'
    go_wp2_with (fail)
    refine (HRI.out _ (Below.refl _ _)).mono ?_; rintro e w2 ⟨v2, rfl, o2, hb2⟩
    have z2 := hb2.size
    have HO2 := Lib.hid (EqTree.own o2)
    have hv2 : ∃ A3 n3 c3, v2 = .slice A3 n3 c3 := by obtain ⟨A3, c3, e3, _⟩ := EqTree.own o2; exact ⟨A3, _, c3, e3⟩
    obtain ⟨A3, n3, c3, rfl⟩ := hv2
    have H22 := Lib.hid (H2.out.below hb2 (Nat.le_refl _))
    have B2 := hb1.trans (hb2.mono z1)
    have HE2 := Lib.hid (HE.out.below hb2)
    clear o2 HRI
    generalize hcc : (rdE l (N : Int)).2 = cc at *
    have HCC := Lib.hid hcc
    clear hcc
    have HI0 : Hid (Int64L w2.heap.size (w2.alloc (.cells #[] 2)) (.slice (some ⟨w2.heap.size, 0, none⟩) 0 0) (intsN [])) := Lib.hid (OwnL.of_empty w2 (Nat.le_refl _))
    have hB0 : Below w2.heap.size w2 (w2.alloc (.cells #[] 2)) := Below.alloc (Below.refl _ _) (Nat.le_refl _) _
    go_wp2_with (fail)
    go_loopw [10, 9] (fun i x wr => ∃ (k : Nat) (vs : List Nat), k ≤ N ∧ i = .int .i64 k ∧ Hid (vs.length = k) ∧ Hid (∀ y ∈ vs, y ≤ 1) ∧ Below w2.heap.size w2 wr ∧ Hid (Int64L w2.heap.size wr x (intsN vs))) (fun i _ _ => N - (intOf i).toNat)
    case atStart => exact ⟨0, [], by omega, rfl, Lib.hid rfl, Lib.hid (by simp), hB0, HI0⟩
    case round =>
      clear HI0 hB0
      obtain ⟨k, vs, hk, rfl, HVL, HV1, hbr, HI⟩ := hrel
      have zr := hbr.size
      by_cases hlt : k < N
      · obtain ⟨q, hq, HA⟩ := a2byte' A2 n2 c2 k 2 wr (H22.out.below hbr (Nat.le_refl _)) (by omega) (by omega) (by omega)
        have hq1 : q ≤ 1 := by omega
        have HAW := Lib.hid (HA wr rfl)
        have hl1 : (intsN vs).length + 1 ≤ 16777216 := by rw [intsN_len, HVL.out]; omega
        have hbase : w2.heap.size ≤ (wr.alloc (.cells #[.int .i64 (q : Int)] 2)).heap.size := by simp; omega
        obtain ⟨Ax, cx, rfl, _⟩ := OwnL.shape HI.out
        clear HA hq
        go_wp2_with (fail)
        refine HAW.out.mono ?_; rintro e w3 ⟨rfl, hW⟩; obtain rfl := hW.symm
        go_wp2_with (at_builtin; refine wpList_app1 icell 1 icell_len _ rfl _ _ _ rfl w2.heap.size 2 i0 (.int .i64 0) 8 Tryd.underlying28 hi hz0 hz1 hz2 rfl (by decide) _ (intsN vs) rfl (HI.out.alloc _) _ 1 (q : Int) rfl ?_ (by simp [icell, Value.oneCell']) hl1 (by decide) hbase ?_; (· intro j u hu; cases j with | zero => (simp [icell] at hu; subst hu; simp) | succ j => simp [icell] at hu); intro v8 w8 how8 hg8'; have hb8 : Below w2.heap.size w2 w8 := own_grown_below (HI.out.alloc (.cells #[.int .i64 (q : Int)] 2)) (Below.alloc hbr zr _) hg8' (Nat.le_refl _) hbase; have HO8 : Hid (Int64L w2.heap.size w8 v8 (intsN (vs ++ [q]))) := Lib.hid (by rw [intsN_app]; exact how8); clear how8 hg8')
        go_roundw
        case rel => exact ⟨k + 1, vs ++ [q], by omega, by go_num, Lib.hid (by rw [List.length_append, HVL.out]; rfl), Lib.hid (fun y hy => by
          rcases List.mem_append.1 hy with hy | hy
          · exact HV1.out y hy
          · obtain rfl : y = q := by simpa using hy
            exact hq1), hb8, HO8⟩
        case measure => simp [intOf]; omega
      · obtain rfl : k = N := by omega
        obtain ⟨Ax, cx, rfl, _⟩ := OwnL.shape HI.out
        have Br := B2.trans (hbr.mono (by omega))
        have HHL := Lib.hid (fun (W : World) (hb : Below wr.heap.size wr W) => a2holds _ _ l _ _ vs W ((HE2.out.below hbr).below hb) (OwnL.below HI.out hb) (by rw [HVL.out]; exact HOK.out) (by omega) HBL.out HV1.out (by rw [HVL.out]; exact hN64))
        rcases HLAW.out with ⟨hR, hX⟩ | ⟨o, hR, hX⟩
        · have hc3 : cc = 3 := by rw [← HCC.out, hR]
          rw [hX vs] at HHL
          clear hR hX HLAW HCC
          subst hc3
          go_wp2_with (fail)
          refine (HHL.out _ (Below.refl _ _)).mono ?_; rintro e w4 ⟨rfl, hb4⟩
          go_wp2
          go_ret
          exact ⟨rfl, Br.trans (hb4.mono Br.size)⟩
        · have hc0 : cc = 0 := by rw [← HCC.out, hR]
          have HX := Lib.hid hX
          have HO3 := HO2
          rw [hR] at HO3
          have HO4 := Lib.hid (HO3.out.below hbr)
          have hol := hX.len
          have hbo : ∀ e ∈ o.map rowEqn, e.bits.length ≤ 1048576 := fun e he => by
            obtain ⟨a, _, rfl⟩ := List.mem_map.1 he
            show (intsN (bitsK a.m 64)).length ≤ _
            rw [intsN_len]; have := bitsK_len a.m 64; omega
          have hom : (o.map rowEqn).length ≤ 64 := by rw [List.length_map]; exact hol
          have HVA := Lib.hid (fun (W : World) (hb : Below wr.heap.size wr W) => validE_i _ (o.map rowEqn) _ k W (HO4.out.below hb) (by omega) hbo (by omega))
          rw [hX.valid] at HVA
          have HHO := Lib.hid (fun (W : World) (hb : Below wr.heap.size wr W) => a2holds _ _ (o.map rowEqn) _ _ vs W (HO4.out.below hb) (OwnL.below HI.out hb) (by rw [HVL.out]; exact hX.ok) hom hbo HV1.out (by rw [HVL.out]; exact hN64))
          rw [hX.same vs] at HHO
          have HRA := Lib.hid (fun (W : World) (hb : Below wr.heap.size wr W) => rde_i _ (o.map rowEqn) _ k W (HO4.out.below hb) (by omega) hbo (by omega) (((HTZ.out.below hb1).below (hb2.mono (Nat.le_refl _))).below (hbr.trans (hb.mono zr))))
          rw [hX.again] at HRA
          obtain ⟨A3', c3', hv3, HLA⟩ := Lie.of HO4.out
          injection hv3 with e1 e2 e3
          subst e1 e2 e3
          have HLA := Lib.hid HLA
          generalize holdL vs l = b0 at *
          clear hR hX HLAW HCC HO3 HO2 HO4 hbo hom HOK HBL HE2 HE
          subst hc0
          go_wp2_with (fail)
          refine (HVA.out _ (Below.refl _ _)).mono ?_; rintro e w4 ⟨rfl, hb4⟩
          go_wp2_with (fail)
          refine (HHL.out _ hb4).mono ?_; rintro e w5 ⟨rfl, hb5⟩
          have hb5' := hb4.trans (hb5.mono hb4.size)
          go_wp2_with (fail)
          refine (HHO.out _ hb5').mono ?_; rintro e w6 ⟨rfl, hb6⟩
          have hb6' := hb5'.trans (hb6.mono hb5'.size)
          clear HVA HHL HHO
          have hbb : (b0 != b0) = false := by cases b0 <;> rfl
          have z6 := hb6'.size
          go_wp2_with (fail)
          refine (HRA.out _ hb6').mono ?_; rintro e w7 ⟨v7, rfl, o7, hb7⟩
          have HO7 := EqTree.own o7
          obtain ⟨A7, c7, rfl, HLB⟩ := Lie.of HO7
          have hb7' := hb6'.trans (hb7.mono hb6'.size)
          have B7 := Br.trans (hb7'.mono Br.size)
          have z7 := B7.size
          have HA7 : Hid (o ≠ [] → ∃ g, A3 = some ⟨g, 0, none⟩ ∧ Lie w7 g o) := Lib.hid (fun h0 => by obtain ⟨g, h1, h2⟩ := HLA.out h0; exact ⟨g, h1, h2.below hb7'⟩)
          have HB7 := Lib.hid HLB
          clear HLA HLB HO7 o7 HRA hb4 hb5 hb5' hb6 hb6' hb7 hb7' HTZ
          go_wp2_with (fail)
          go_loopw [12] (fun i wr => ∃ k : Nat, k ≤ o.length ∧ i = .int .i64 k ∧ Below w7.heap.size w7 wr) (fun i _ => o.length - (intOf i).toNat)
          case atStart => exact ⟨0, by omega, rfl, Below.refl _ _⟩
          case round =>
            obtain ⟨i, hi', rfl, hbi⟩ := hrel
            have zi := hbi.size
            by_cases hlt2 : i < o.length
            · obtain ⟨e, he⟩ : ∃ e, o[i]? = some e := ⟨o[i], List.getElem?_eq_getElem hlt2⟩
              have hon : o ≠ [] := by intro h0; rw [h0] at hlt2; simp at hlt2
              obtain ⟨g, rfl, hg⟩ := HA7.out hon
              obtain ⟨g7, rfl, hg7⟩ := HB7.out hon
              have HG := Lib.hid hg
              obtain ⟨bv, p0, p1, p2⟩ := (hg.below hbi).at_ i e he
              obtain ⟨bw, q0, q1, q2⟩ := (hg7.below hbi).at_ i e he
              have hne := HX.out.ne i e he
              have HFAR := Lib.hid (fun (k : Nat) (f : Rw) (hf : o[k]? = some f) (hki : k ≠ i) => HX.out.far i k e f he hf hki)
              generalize hlo : low e.m = lo at *
              generalize hu : bitsK e.m 64 = u at *
              generalize bi e.r = r at *
              obtain ⟨Ab, cb, rfl, hAb⟩ := ints_shape p1
              obtain ⟨gb, rfl, _, hgb⟩ := hAb.resolve_left (by rintro rfl; simp at hne)
              obtain ⟨Aw, cw, rfl, hAw⟩ := ints_shape q1
              have HP1 := Lib.hid p1
              have HQ1 := Lib.hid q1
              have pl := ints_cell p1 hne
              have hul : 0 < u.length := (List.getElem?_eq_some_iff.1 hne).1
              have hum : u.length ≤ 64 := by rw [← hu]; exact bitsK_len _ _
              have d1 : decide ((u.length : Int) = 0) = false := decide_eq_false (by omega)
              have d2 : ((u.length : Int) == 0) = false := by simpa using d1
              have d3 : (r != r) = false := by simp
              have f1 : ∀ x : Wb wr, x.1.cell? ⟨g, i * 2, none⟩ = some (.slice (some ⟨gb, 0, none⟩) u.length cb) := fun x => Wb.cell p0 x
              have f2 : ∀ x : Wb wr, x.1.cell? ⟨g, i * 2 + 1, none⟩ = some (.int .i64 r) := fun x => Wb.cell p2 x
              have f3 : ∀ x : Wb wr, x.1.cell? ⟨g7, i * 2, none⟩ = some (.slice Aw u.length cw) := fun x => Wb.cell q0 x
              have f4 : ∀ x : Wb wr, x.1.cell? ⟨g7, i * 2 + 1, none⟩ = some (.int .i64 r) := fun x => Wb.cell q2 x
              have HSM := Lib.hid (fun x : Wb wr => Wb.qt (a2same (intsN u) _ _ 0 0 x.1 (OwnL.below q1 x.2) (OwnL.below p1 x.2) (by rw [intsN_len]; omega)))
              have hgw := hg.gw
              clear p1 q1 hAb hAw hg hg7 he hu hlo hne q0 q2
              go_wp2_with (fail)
              refine wp_region_wb (by kernel_rfl) (by kernel_rfl) ?_
              repeat (go_big_quiet_step (first | (go_at_call 11; exact HSM.out _)))
              refine wpQuiet_nil ?_
              rintro w9 ⟨⟨w9', hb9⟩, rfl⟩
              have x0 := bel_cell p0 hb9
              have xl := bel_cell pl hb9
              have b9 := hbi.trans (hb9.mono zi)
              clear f1 f2 f3 f4 HSM p0 p2 pl hb9 hbi HP1 HQ1
              have z9 := b9.size
              go_wp2
              go_loopw [13] (fun i2 wx => ∃ k : Nat, k ≤ o.length ∧ i2 = .int .i64 k ∧ Below w9.heap.size w9 wx) (fun i2 _ => o.length - (intOf i2).toNat)
              case atStart => exact ⟨0, by omega, rfl, Below.refl _ _⟩
              case round =>
                obtain ⟨k2, hk2, rfl, hbx⟩ := hrel
                have zx := hbx.size
                by_cases hlt3 : k2 < o.length
                · obtain ⟨f, hf⟩ : ∃ f, o[k2]? = some f := ⟨o[k2], List.getElem?_eq_getElem hlt3⟩
                  have b9x := b9.trans (hbx.mono z9)
                  obtain ⟨bk, r0, r1, _⟩ := (HG.out.below b9x).at_ k2 f hf
                  have HFF := Lib.hid (fun hki => HFAR.out k2 f hf hki)
                  have hml := bitsK_len f.m 64
                  generalize bitsK f.m 64 = m at *
                  obtain ⟨Ak, ck, rfl, hAk⟩ := ints_shape r1
                  have HC := Lib.hid (fun (j x : Nat) (hj : m[j]? = some x) => (show ∃ gk, Ak = some ⟨gk, 0, none⟩ ∧ wr.cell? ⟨gk, j, none⟩ = some (.int .i64 (x : Int)) by
                    obtain ⟨gk, rfl, _⟩ := hAk.resolve_left (by rintro rfl; simp at hj)
                    exact ⟨gk, rfl, ints_cell r1 hj⟩))
                  have y0 := bel_cell x0 hbx
                  have yl := bel_cell xl hbx
                  clear r1 hAk hf
                  generalize hwo : wr = wo at *; clear hwo
                  go_wp2
                  go_loopw [14] (fun i3 wy => ∃ j : Nat, j ≤ m.length ∧ i3 = .int .i64 j ∧ Below wo.heap.size wo wy) (fun i3 _ => m.length - (intOf i3).toNat)
                  case atStart => exact ⟨0, by omega, rfl, Below.refl _ _⟩
                  case round =>
                    obtain ⟨j, hj, rfl, hby⟩ := hrel
                    have s0 := bel_cell r0 hby
                    have t0 := bel_cell y0 hby
                    have tl := bel_cell yl hby
                    have hbxy := hbx.trans (hby.mono zx)
                    by_cases hlt4 : j < m.length
                    · by_cases hki : k2 = i
                      · subst hki
                        clear HFF HFAR
                        go_wp2
                        all_goals
                          go_roundw
                          case rel => exact ⟨k2 + 1, by omega, by go_num, hbxy⟩
                          case measure => simp [intOf]; omega
                      · obtain ⟨x, hx⟩ : ∃ x, m[j]? = some x := ⟨m[j], List.getElem?_eq_getElem hlt4⟩
                        obtain ⟨gk, rfl, ux⟩ := HC.out j x hx
                        have u0 := bel_cell ux hby
                        have hxl := HFF.out hki x (List.mem_of_getElem? hx)
                        have e1 : decide ((k2 : Int) = (i : Int)) = false := decide_eq_false (by omega)
                        have e2 : decide (k2 = i) = false := decide_eq_false hki
                        have e3 : decide ((x : Int) = (lo : Int)) = false := decide_eq_false (by omega)
                        have e4 : decide (x = lo) = false := decide_eq_false hxl
                        have HH := Lib.hid (And.intro hki hxl)
                        have e5 : (k2 != i) = true := by simpa using hki
                        have e6 : ((k2 : Int) != (i : Int)) = true := by simp; omega
                        clear hx
                        go_wp2
                        go_quiet (fail)
                        go_wp2
                        go_roundw
                        case rel => exact ⟨j + 1, by omega, by go_num, below_drewN hby _⟩
                        case measure => simp [intOf]; omega
                    · go_wp2
                      go_roundw
                      case rel => exact ⟨k2 + 1, by omega, by go_num, hbxy⟩
                      case measure => simp [intOf]; omega
                · go_wp2
                  go_roundw
                  case rel => exact ⟨i + 1, by omega, by go_num, b9.trans (hbx.mono z9)⟩
                  case measure => simp [intOf]; omega
            · go_wp2
              go_ret
              exact ⟨rfl, B7.trans (hbi.mono (by omega))⟩
end Go.Proofs.YthchdbjgjnpooaaDoor
