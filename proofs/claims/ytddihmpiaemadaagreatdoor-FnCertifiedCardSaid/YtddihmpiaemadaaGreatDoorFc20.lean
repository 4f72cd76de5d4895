/- ValidEvidence, the reference: the walks. Readings of a sector and bytes that fit, impl and spec: the walks. FirstFill, impl: the walk. -/
import Derived.Test.YtddihmpiaemadaaGreatDoorFc19
import Derived.Test.YtddihmpiaemadaaGreatDoorFc18
import Derived.Test.YtddihmpiaemadaaGreatDoorFc06
import Derived.Test.YtddihmpiaemadaaGreatDoorFc13
namespace Go.Proofs.YtddihmpiaemadaaGreatDoor
set_option linter.unusedVariables false
set_option linter.unusedSimpArgs false
open Go.RowKit
set_option maxRecDepth 20000 in
set_option maxHeartbeats 4000000 in
theorem par_s (z : Dsc) (gz oz c : Nat) (AL : Option Addr) (l : List ByteArray) (w : World) (h0 : w.cell? ⟨gz, oz, none⟩ = some (.int .i64 z.cyl)) (h1 : w.cell? ⟨gz, oz + 1, none⟩ = some (.int .i64 z.heads)) (h3 : w.cell? ⟨gz, oz + 3, none⟩ = some (.int .i64 z.size))
    (hgz : geoB z.cyl z.heads z.per z.size = true) (hA : StrAt w AL l) (hl : l.length ≤ 1048576) (hm : ∀ s ∈ l, s.size ≤ maxLen) :
    Calls Tryz.prog 52 #[.pointer (some ⟨gz, oz, none⟩), .slice AL l.length c] w fun e w' => e = .returned (.bool (parOk z l)) ∧ Below w.heap.size w w' := by
  obtain ⟨g1, g2, g3, g4⟩ := geo_parts hgz
  obtain ⟨m1, m2⟩ := prod_bd g1 g2 g3
  have hgb := World.block_lt_of_cell? w _ h0
  have v0 : ∀ x : Wb w, x.1.cell? ⟨gz, oz, none⟩ = some (.int .i64 z.cyl) := fun x => Wb.cell h0 x
  have v1 : ∀ x : Wb w, x.1.cell? ⟨gz, oz + 1, none⟩ = some (.int .i64 z.heads) := fun x => Wb.cell h1 x
  cases hln : ((l.length : Int) == z.cyl * z.heads)
  · have HN : Hid (parOk z l = false) := Lib.hid (by unfold parOk; rw [hln]; rfl)
    have hne : ((l.length : Int) != z.cyl * z.heads) = true := by unfold bne; rw [hln]; rfl
    clear hln
    go_enter Tryz.func52, Tryz.ntmps52
    go_wp2_with (fail)
    refine wp_region_wb (by kernel_rfl) (by kernel_rfl) ?_; (repeat (go_big_quiet_step (fail))); refine wpQuiet_nil ?_; rintro w1 ⟨⟨w1', hb1⟩, rfl⟩
    go_wp2
    go_ret
    exact ⟨ret_bool HN.out.symm, hb1⟩
  · have HN : Hid (parOk z l = ((l.drop 0).all (parB (szN z.size)) && true)) := Lib.hid (by unfold parOk; rw [hln, Bool.true_and, Bool.and_true, List.drop_zero])
    have hne : ((l.length : Int) != z.cyl * z.heads) = false := by unfold bne; rw [hln]; rfl
    have HLN := Lib.hid hln
    clear hln
    go_enter Tryz.func52, Tryz.ntmps52
    go_wp2_with (fail)
    refine wp_region_wb (by kernel_rfl) (by kernel_rfl) ?_; (repeat (go_big_quiet_step (fail))); refine wpQuiet_nil ?_; rintro w1 ⟨⟨w1', hb1⟩, rfl⟩
    have z1 := hb1.size
    clear v0 v1 hne
    go_wp2
    go_loopw [5] (fun ix wr => ∃ m : Nat, m ≤ l.length ∧ ix = .int .i64 m ∧ Below w.heap.size w wr ∧ Hid (parOk z l = ((l.drop m).all (parB (szN z.size)) && true))) (fun ix _ => l.length - (intOf ix).toNat)
    case atStart => exact ⟨0, by omega, rfl, hb1, HN⟩
    case round =>
      obtain ⟨m, hm', rfl, hb, HM⟩ := hrel
      have zr := hb.size
      by_cases hlm : m < l.length
      · obtain ⟨s, hs⟩ : ∃ s, l[m]? = some s := ⟨l[m], List.getElem?_eq_getElem hlm⟩
        obtain ⟨g, rfl, hg, hc⟩ := hA.resolve_left (by intro h0; rw [h0] at hlm; simp at hlm)
        have ps : ∀ x : Wb wr, x.1.cell? ⟨g, m, none⟩ = some (.string s) := fun x => Wb.cell ((hb.cell (p := ⟨g, m, none⟩) hg).trans (hc m s hs)) x
        have v3 : ∀ x : Wb wr, x.1.cell? ⟨gz, oz + 3, none⟩ = some (.int .i64 z.size) := fun x => Wb.cell ((hb.cell (p := ⟨gz, oz + 3, none⟩) hgb).trans h3) x
        have hsm := hm s (List.mem_of_getElem? hs)
        unfold maxLen at hsm
        have HSS := Lib.hid hs
        have hz8 := szN_le g4
        clear hs hc
        by_cases he : s.size = 0
        · have HX := al_yes HSS.out HM (par_empty he)
          have h1 := emp_nil he
          have h1' : s.toList.isEmpty = true := by rw [h1]; rfl
          have h1'' : (s.toList != []) = false := by rw [h1]; rfl
          have HE := Lib.hid he
          clear he
          go_wp2_with (fail)
          refine wp_region_wb (by kernel_rfl) (by kernel_rfl) ?_; (repeat (go_big_quiet_step (first | (go_at_call 57; exact Wb.same (bytes_s _ _ g4))))); refine wpQuiet_nil ?_; rintro w2 ⟨⟨w2', hb2⟩, rfl⟩
          go_wp2
          go_roundw
          case rel => exact ⟨m + 1, by omega, by go_num, hb.trans (hb2.mono zr), HX⟩
          case measure => simp [intOf]; omega
        · have h1 := emp_ne he
          have h1' : s.toList.isEmpty = false := by simpa using h1
          have h1'' : (s.toList != []) = true := by simpa using h1
          by_cases he2 : s.size = szN z.size
          · have HX := al_yes HSS.out HM (par_same he2)
            have h2 : ((s.size : Int) != (szN z.size : Nat)) = false := by rw [bne_eq_false_iff_eq]; omega
            have HE := Lib.hid (And.intro he he2)
            clear he he2
            go_wp2_with (fail)
            refine wp_region_wb (by kernel_rfl) (by kernel_rfl) ?_; (repeat (go_big_quiet_step (first | (go_at_call 57; exact Wb.same (bytes_s _ _ g4))))); refine wpQuiet_nil ?_; rintro w2 ⟨⟨w2', hb2⟩, rfl⟩
            go_wp2
            go_roundw
            case rel => exact ⟨m + 1, by omega, by go_num, hb.trans (hb2.mono zr), HX⟩
            case measure => simp [intOf]; omega
          · have HX := al_no HSS.out HM (par_bad he he2)
            have h2 : ((s.size : Int) != (szN z.size : Nat)) = true := by rw [bne_iff_ne]; omega
            go_wp2_with (fail)
            refine wp_region_wb (by kernel_rfl) (by kernel_rfl) ?_; (repeat (go_big_quiet_step (first | (go_at_call 57; exact Wb.same (bytes_s _ _ g4))))); refine wpQuiet_nil ?_; rintro w2 ⟨⟨w2', hb2⟩, rfl⟩
            go_wp2
            go_ret
            exact ⟨ret_bool HX.symm, hb.trans (hb2.mono zr)⟩
      · go_wp2
        go_ret
        exact ⟨ret_bool (al_end (by omega) HM).symm, hb⟩
/-- the cells of a box of evidence -/
structure EvBox (gb : Nat) (w : World) (a b c d : Value) : Prop where
  c0 : w.cell? ⟨gb, 0, none⟩ = some a
  c1 : w.cell? ⟨gb, 1, none⟩ = some b
  c2 : w.cell? ⟨gb, 2, none⟩ = some c
  c3 : w.cell? ⟨gb, 3, none⟩ = some d
theorem EvBox.below {gb : Nat} {w w' : World} {a b c d : Value} (h : EvBox gb w a b c d) (hb : Below w.heap.size w w') : EvBox gb w' a b c d := by
  have hl := World.block_lt_of_cell? w _ h.c0
  exact ⟨(hb.cell (p := ⟨gb, 0, none⟩) hl).trans h.c0, (hb.cell (p := ⟨gb, 1, none⟩) hl).trans h.c1, (hb.cell (p := ⟨gb, 2, none⟩) hl).trans h.c2, (hb.cell (p := ⟨gb, 3, none⟩) hl).trans h.c3⟩
set_option maxRecDepth 20000 in
set_option maxHeartbeats 8000000 in
theorem evp_s (B gb : Nat) (e : Evd) (va vb vc vd : Value) (w : World) (hx : EvBox gb w va vb vc vd) (h : EvOwn B w e va vb vc vd) (hs : EvSmall e) :
    Calls Tryz.prog 19 #[.pointer (some ⟨gb, 0, none⟩)] w fun r w' => r = .returned (.bool (evOk e)) ∧ Below w.heap.size w w' := by
  obtain ⟨A, n, B', k, C, i, D, j, rfl, rfl, rfl, rfl⟩ := h.shape
  have hgb := World.block_lt_of_cell? w _ hx.c0
  have hb2 := hs.cr
  have hb3 := hs.p
  have hb4 := hs.q
  have hb5 := hs.ds
  by_cases hlen : 1 ≤ e.ds.length ∧ e.ds.length ≤ 5
  rotate_left
  · have b0 : inB e.ds.length 1 5 = false := inB_f (by omega)
    have HF : Hid (evOk e = false) := Lib.hid (ev_no0 (by
      by_cases h : 5 < e.ds.length
      · exact du_long h
      · have : e.ds = [] := List.eq_nil_of_length_eq_zero (by omega)
        rw [this]; rfl))
    have c0 := hx.c0
    clear hx h hs
    go_enter Tryz.func19, Tryz.ntmps19
    go_wp2_with (first | (go_at_call 50; refine (in_s _ _ _ _).mono ?_; rintro r w1 ⟨rfl, rfl⟩))
    go_ret
    exact ⟨ret_bool HF.out.symm, Below.refl _ _⟩
  · have b0 : inB e.ds.length 1 5 = true := inB_t (by omega)
    obtain ⟨z, hz⟩ : ∃ z, e.ds[0]? = some z := ⟨e.ds[0]'(by omega), List.getElem?_eq_getElem (by omega)⟩
    have HDU := Lib.hid (du_at hz hlen.2)
    have HZ := Lib.hid hz
    have hzs := hs.secs z (List.mem_of_getElem? hz)
    have HX := Lib.hid hx
    have HS := Lib.hid hs
    have HCR : Hid (∀ (w' : World), Below w.heap.size w w' → ∀ (g : Nat), B' = some ⟨g, 0, none⟩ → ∀ (m : Nat) (u : Int), e.cr[m]? = some u → w'.cell? ⟨g, m, none⟩ = some (.int .i64 u)) := Lib.hid (fun w' hb g hg m u hu => by
      subst hg
      exact Int64L.at_ (OwnL.below h.cr hb) rfl hu)
    have HCA : e.cr = [] ∨ ∃ g, B' = some ⟨g, 0, none⟩ := by
      obtain ⟨A1, c1, e1, hA1⟩ := OwnL.shape h.cr
      injection e1 with e1 _ _
      subst e1
      rcases hA1 with hA1 | ⟨g, hg, _⟩
      · exact .inl hA1
      · exact .inr ⟨g, hg⟩
    have HP := Lib.hid (StrAt.of h.p rfl)
    have HQ := Lib.hid (StrAt.of h.q rfl)
    obtain ⟨A', c', e', hA'⟩ := h.ds
    injection e' with e1 _ e2
    subst e1 e2
    obtain ⟨gd, rfl, _, hgd, hcd⟩ := hA'.resolve_left (by intro h0; rw [h0] at hz; cases hz)
    obtain ⟨bz, oz, cz0⟩ := hcd 0 z hz
    obtain ⟨Az, cz, rfl, _⟩ := OwnL.shape oz
    have HCD := Lib.hid hcd
    have HY : Hid (∀ (m : Nat) (u : Value), (z.ints ++ [.slice Az z.secs.length cz])[m]? = some u → w.cell? ⟨gd, m, none⟩ = some u) := Lib.hid (fun m u hu => by have := cz0 m u hu; simpa using this)
    have c0 := hx.c0
    clear h hx hs hA' hcd cz0 oz hz
    go_enter Tryz.func19, Tryz.ntmps19
    go_wp2_with (first | (go_at_call 50; refine (in_s _ _ _ _).mono ?_; rintro r w1 ⟨rfl, rfl⟩))
    go_loopw [4] (fun ix wr => ∃ m : Nat, m ≤ e.ds.length ∧ ix = .int .i64 m ∧ Below w.heap.size w wr ∧ Hid (dumpsOk e.ds = (e.ds.drop m).all fun d => discOk d && sameG d z)) (fun ix _ => e.ds.length - (intOf ix).toNat)
    case atStart => exact ⟨0, by omega, rfl, Below.refl _ _, HDU⟩
    case round =>
      obtain ⟨m, hm, rfl, hb, HM⟩ := hrel
      have zr := hb.size
      have k0 := (hb.cell (p := ⟨gb, 0, none⟩) hgb).trans HX.out.c0
      by_cases hlt : m < e.ds.length
      · obtain ⟨d, hd⟩ : ∃ d, e.ds[m]? = some d := ⟨e.ds[m], List.getElem?_eq_getElem hlt⟩
        obtain ⟨bv, od, cd⟩ := HCD.out m d hd
        obtain ⟨A2, c2, rfl, hA2⟩ := OwnL.shape od
        have hmem := List.mem_of_getElem? hd
        have PC := fun (q : Nat) (u : Value) (hu : (d.ints ++ [.slice A2 d.secs.length c2])[q]? = some u) => (hb.cell (p := ⟨gd, m * 5 + q, none⟩) hgd).trans (cd q u hu)
        have p0 : wr.cell? ⟨gd, m * 5, none⟩ = some (.int .i64 d.cyl) := PC 0 _ rfl
        have p1 := PC 1 _ rfl
        have p2 := PC 2 _ rfl
        have p3 := PC 3 _ rfl
        have p4 := PC 4 _ rfl
        have HOK := Lib.hid (discq_s d gd (m * 5) c2 A2 wr p0 p1 p2 p3 p4 (by
          by_cases hl0 : d.secs = []
          · exact .inl hl0
          · obtain ⟨g, rfl, _, hg⟩ := hA2.resolve_left hl0
            exact .inr ⟨g, rfl, Nat.lt_of_lt_of_le hg zr, fun q s hq => ⟨(hb.cell (p := ⟨g, _, none⟩) hg).trans (OwnL.cell Sec.len od hq (j := 0) rfl), (hb.cell (p := ⟨g, _, none⟩) hg).trans (OwnL.cell Sec.len od hq (j := 1) rfl)⟩⟩) (HS.out.secs d hmem) (HS.out.data d hmem))
        have PA := fun (q : Nat) (u : Value) (hu : (d.ints ++ [.slice A2 d.secs.length c2])[q]? = some u) (w' : World) (hb' : Below wr.heap.size wr w') (x : Wb w') => Wb.cell (b := gd) (o := m * 5 + q) ((hb'.cell (p := ⟨gd, m * 5 + q, none⟩) (Nat.lt_of_lt_of_le hgd zr)).trans (PC q u hu)) x
        have PZ := fun (q : Nat) (u : Value) (hu : (z.ints ++ [.slice Az z.secs.length cz])[q]? = some u) (w' : World) (hb' : Below wr.heap.size wr w') (x : Wb w') => Wb.cell (b := gd) (o := q) ((hb'.cell (p := ⟨gd, q, none⟩) (Nat.lt_of_lt_of_le hgd zr)).trans ((hb.cell (p := ⟨gd, q, none⟩) hgd).trans (HY.out q u hu))) x
        have HAL := Lib.hid (fun (w' : World) (hb' : Below wr.heap.size wr w') => alike_s d z gd (m * 5) gd 0 w' (PA 0 _ rfl w' hb') (PA 1 _ rfl w' hb') (PA 2 _ rfl w' hb') (PA 3 _ rfl w' hb') (PZ 0 _ rfl w' hb') (PZ 1 _ rfl w' hb') (PZ 2 _ rfl w' hb') (PZ 3 _ rfl w' hb'))
        have HD := Lib.hid hd
        clear hd PC PA PZ p0 p1 p2 p3 p4 od cd hA2
        cases h1 : discOk d
        · have HN := Lib.hid (du_no (z := z) HD.out HM (by rw [h1]; rfl))
          rw [h1] at HOK
          go_wp2_with (fail)
          refine HOK.out.mono ?_; rintro r w2 ⟨rfl, hb2⟩
          go_wp2
          go_ret
          exact ⟨ret_bool (ev_no0 HN.out).symm, hb.trans (hb2.mono zr)⟩
        · rw [h1] at HOK
          cases h2 : sameG d z
          · have HN := Lib.hid (du_no (z := z) HD.out HM (by rw [h1, h2]; rfl))
            rw [h2] at HAL
            go_wp2_with (fail)
            refine HOK.out.mono ?_; rintro r w2 ⟨rfl, hb2⟩
            have k0' := (hb2.cell (p := ⟨gb, 0, none⟩) (Nat.lt_of_lt_of_le hgb zr)).trans k0
            clear k0
            go_wp2_with (fail)
            refine (HAL.out w2 hb2).mono ?_; rintro r w3 ⟨rfl, hb3⟩
            go_wp2
            go_ret
            exact ⟨ret_bool (ev_no0 HN.out).symm, (hb.trans (hb2.mono zr)).trans (hb3.mono (Nat.le_trans zr hb2.size))⟩
          · have HN := du_yes (z := z) HD.out HM (by rw [h1, h2]; rfl)
            rw [h2] at HAL
            go_wp2_with (fail)
            refine HOK.out.mono ?_; rintro r w2 ⟨rfl, hb2⟩
            have k0' := (hb2.cell (p := ⟨gb, 0, none⟩) (Nat.lt_of_lt_of_le hgb zr)).trans k0
            clear k0
            go_wp2_with (fail)
            refine (HAL.out w2 hb2).mono ?_; rintro r w3 ⟨rfl, hb3⟩
            go_wp2
            go_roundw
            case rel => exact ⟨m + 1, by omega, by go_num, (hb.trans (hb2.mono zr)).trans (hb3.mono (Nat.le_trans zr hb2.size)), HN⟩
            case measure => simp [intOf]; omega
      · have hok := du_end (by omega) HM
        have HEV := Lib.hid (ev_at hok HZ.out)
        have hgz := disc_geo (dps_ok hok HZ.out)
        have HOK := Lib.hid hok
        have k1 : ∀ x : Wb wr, x.1.cell? ⟨gb, 1, none⟩ = some (.slice B' e.cr.length k) := fun x => Wb.cell ((hb.cell (p := ⟨gb, 1, none⟩) hgb).trans HX.out.c1) x
        have y4 : ∀ x : Wb wr, x.1.cell? ⟨gd, 4, none⟩ = some (.slice Az z.secs.length cz) := fun x => Wb.cell ((hb.cell (p := ⟨gd, 4, none⟩) hgd).trans (HY.out 4 _ rfl)) x
        clear hok HM HDU
        by_cases hcl : e.cr.length = z.secs.length
        rotate_left
        · have HF := Lib.hid (ev_no1 HEV.out hcl)
          have hn1 : ((e.cr.length : Int) != (z.secs.length : Int)) = true := by rw [bne_iff_ne]; omega
          go_wp2_with (fail)
          refine wp_region_wb (by kernel_rfl) (by kernel_rfl) ?_; (repeat (go_big_quiet_step (fail))); refine wpQuiet_nil ?_; rintro w1 ⟨⟨w1', hb1⟩, rfl⟩
          go_wp2
          go_ret
          exact ⟨ret_bool HF.out.symm, hb.trans (hb1.mono zr)⟩
        · have HF := Lib.hid (ev_yes1 HEV.out hcl)
          have hn1 : ((e.cr.length : Int) != (z.secs.length : Int)) = false := by rw [bne_eq_false_iff_eq]; omega
          clear hcl HEV
          go_wp2_with (fail)
          refine wp_region_wb (by kernel_rfl) (by kernel_rfl) ?_; (repeat (go_big_quiet_step (fail))); refine wpQuiet_nil ?_; rintro w1 ⟨⟨w1', hb1⟩, rfl⟩
          have B1 : Below w.heap.size w w1 := hb.trans (hb1.mono zr)
          have k1' := k1 ⟨w1, hb1⟩
          dsimp only at k1'
          clear k1 y4 hn1 k0 hb1 hb zr
          have HF2 : Hid (evOk e = ((e.cr.drop 0).all crcR && (parOk z e.p && parOk z e.q))) := Lib.hid (by rw [HF.out]; simp)
          clear HF
          generalize hwo : wr = wo at *
          clear hwo
          go_wp2
          go_loop [5] (fun ix => ∃ m : Nat, m ≤ e.cr.length ∧ ix = .int .i64 m ∧ Hid (evOk e = ((e.cr.drop m).all crcR && (parOk z e.p && parOk z e.q)))) (fun ix => e.cr.length - (intOf ix).toNat)
          case atStart => exact ⟨0, by omega, rfl, HF2⟩
          case round =>
            obtain ⟨m, hm, rfl, HK⟩ := hrel
            by_cases hlt : m < e.cr.length
            · obtain ⟨u, hu⟩ : ∃ u, e.cr[m]? = some u := ⟨e.cr[m], List.getElem?_eq_getElem hlt⟩
              obtain ⟨g, rfl⟩ := HCA.resolve_left (by intro h0; rw [h0] at hlt; simp at hlt)
              have pu := HCR.out w1 B1 g rfl m u hu
              have HU := Lib.hid hu
              clear hu
              cases hin : inB u (-1) 65535
              · have HN := al_no HU.out HK hin
                go_wp2_with (go_at_call 50; refine (in_s _ _ _ _).mono ?_; rintro r w3 ⟨rfl, rfl⟩)
                go_ret
                exact ⟨ret_bool HN.symm, B1⟩
              · have HN := al_yes HU.out HK hin
                go_wp2_with (go_at_call 50; refine (in_s _ _ _ _).mono ?_; rintro r w3 ⟨rfl, rfl⟩)
                go_round
                case rel => exact ⟨m + 1, by omega, by go_num, HN⟩
                case measure => simp [intOf]; omega
            · have HL := Lib.hid (al_end (by omega) HK)
              clear HK
              have k2 := (B1.cell (p := ⟨gb, 2, none⟩) hgb).trans HX.out.c2
              have HPP := Lib.hid (par_s z gd 0 i C e.p w1 ((B1.cell (p := ⟨gd, 0, none⟩) hgd).trans (HY.out 0 _ rfl)) ((B1.cell (p := ⟨gd, 1, none⟩) hgd).trans (HY.out 1 _ rfl)) ((B1.cell (p := ⟨gd, 3, none⟩) hgd).trans (HY.out 3 _ rfl)) hgz (HP.out.below B1) HS.out.p HS.out.ps)
              cases hp : parOk z e.p
              · have HN : Hid (evOk e = false) := Lib.hid (by rw [HL.out, hp]; rfl)
                rw [hp] at HPP
                go_wp2_with (fail)
                refine HPP.out.mono ?_; rintro r w2 ⟨rfl, hb2⟩
                go_wp2
                go_ret
                exact ⟨ret_bool HN.out.symm, B1.trans (hb2.mono B1.size)⟩
              · have HN : Hid (evOk e = parOk z e.q) := Lib.hid (by rw [HL.out, hp]; rfl)
                rw [hp] at HPP
                go_wp2_with (fail)
                refine HPP.out.mono ?_; rintro r w2 ⟨rfl, hb2⟩
                have B2 : Below w.heap.size w w2 := B1.trans (hb2.mono B1.size)
                have k3 := (B2.cell (p := ⟨gb, 3, none⟩) hgb).trans HX.out.c3
                have HQQ := Lib.hid (par_s z gd 0 j D e.q w2 ((B2.cell (p := ⟨gd, 0, none⟩) hgd).trans (HY.out 0 _ rfl)) ((B2.cell (p := ⟨gd, 1, none⟩) hgd).trans (HY.out 1 _ rfl)) ((B2.cell (p := ⟨gd, 3, none⟩) hgd).trans (HY.out 3 _ rfl)) hgz (HQ.out.below B2) HS.out.q HS.out.qs)
                clear k2
                go_wp2_with (fail)
                refine HQQ.out.mono ?_; rintro r w3 ⟨rfl, hb3⟩
                go_wp2
                go_ret
                exact ⟨ret_bool HN.out.symm, B2.trans (hb3.mono B2.size)⟩
set_option maxHeartbeats 2000000 in
theorem ev_s (B : Nat) (e : Evd) (va vb vc vd : Value) (w : World) (h : EvOwn B w e va vb vc vd) (hs : EvSmall e) :
    Calls Tryz.prog 8 #[evV va vb vc vd] w fun r w' => r = .returned (.bool (evOk e)) ∧ Below w.heap.size w w' := by
  have HB : Below w.heap.size w (w.alloc (.cells #[va, vb, vc, vd] 28)) := Below.alloc (Below.refl _ _) (Nat.le_refl _) _
  have HE := Lib.hid (evp_s B w.heap.size e va vb vc vd (w.alloc (.cells #[va, vb, vc, vd] 28)) ⟨by simp, by simp, by simp, by simp⟩ (h.below HB) hs)
  obtain ⟨A, n, B', k, C, i, D, j, rfl, rfl, rfl, rfl⟩ := h.shape
  clear h
  go_enter Tryz.func8, Tryz.ntmps8
  go_wp2_with (fail)
  refine HE.out.mono ?_; rintro r w1 ⟨rfl, hb1⟩
  go_wp2
  go_ret
  exact ⟨rfl, HB.trans (hb1.mono (by simp))⟩
end Go.Proofs.YtddihmpiaemadaaGreatDoor
namespace Go.Proofs.YtddihmpiaemadaaGreatDoor
set_option linter.unusedVariables false
set_option linter.unusedSimpArgs false
open Go.RowKit
theorem fit_at {cr : List Int} {k : Nat} {u : Int} (h : cr[k]? = some u) (s : ByteArray) : fitB cr k s = (u == -1 || (crcB s : Int) == u) := by
  unfold fitB; rw [List.getD_eq_getElem?_getD, h]; rfl
theorem rd_yes {k j : Nat} {l : List Dsc} {d : Dsc} {s : Sec} {X acc : List ByteArray} (hd : l[j]? = some d) (hs : d.secs[k]? = some s) (H : Hid (X = acc ++ rdF k (l.drop j))) (h : ¬ s.state = 3) : Hid (X = (acc ++ [s.data]) ++ rdF k (l.drop (j + 1))) := by
  obtain ⟨hj, rfl⟩ := List.getElem?_eq_some_iff.1 hd
  refine Lib.hid ?_
  rw [H.out, List.drop_eq_getElem_cons hj]
  unfold rdF
  rw [List.map_cons, List.getD_eq_getElem?_getD, hs]
  show acc ++ rdL (s :: _) = _
  rw [rdL, if_neg (by simpa using h), List.append_assoc]; rfl
theorem rd_no {k j : Nat} {l : List Dsc} {d : Dsc} {s : Sec} {X acc : List ByteArray} (hd : l[j]? = some d) (hs : d.secs[k]? = some s) (H : Hid (X = acc ++ rdF k (l.drop j))) (h : s.state = 3) : Hid (X = acc ++ rdF k (l.drop (j + 1))) := by
  obtain ⟨hj, rfl⟩ := List.getElem?_eq_some_iff.1 hd
  refine Lib.hid ?_
  rw [H.out, List.drop_eq_getElem_cons hj]
  unfold rdF
  rw [List.map_cons, List.getD_eq_getElem?_getD, hs]
  show acc ++ rdL (s :: _) = _
  rw [rdL, if_pos (by simpa using h)]
theorem rdg_end {k j : Nat} {l : List Dsc} {X acc : List ByteArray} (hj : l.length ≤ j) (H : Hid (X = acc ++ rdF k (l.drop j))) : X = acc := by
  rw [H.out, List.drop_of_length_le hj]; simp [rdF, rdL]
theorem crc_cell {B : Nat} {e : Evd} {va vb vc vd : Value} {w : World} (h : EvOwn B w e va vb vc vd) {k : Nat} (hk : k < e.cr.length) : ∃ g c u, vb = .slice (some ⟨g, 0, none⟩) e.cr.length c ∧ e.cr[k]? = some u ∧ w.cell? ⟨g, k, none⟩ = some (.int .i64 u) := by
  have o := h.cr
  obtain ⟨A, c, rfl, hA⟩ := OwnL.shape o
  obtain ⟨g, rfl, _⟩ := hA.resolve_left (by intro h0; rw [h0] at hk; simp at hk)
  obtain ⟨u, hu⟩ : ∃ u, e.cr[k]? = some u := ⟨e.cr[k], List.getElem?_eq_getElem hk⟩
  exact ⟨g, c, u, rfl, hu, Int64L.at_ o rfl hu⟩
set_option maxRecDepth 20000 in
set_option maxHeartbeats 4000000 in
theorem fits_i (B : Nat) (e : Evd) (va vb vc vd : Value) (k : Nat) (s : ByteArray) (w : World) (h : EvOwn B w e va vb vc vd) (hk : k < e.cr.length) (hcr : e.cr.length ≤ 1048576) (hs : s.size ≤ 4096) :
    Calls Tryz.prog 59 #[evV va vb vc vd, .int .i64 k, .string s] w fun r w' => r = .returned (.bool (fitB e.cr k s)) ∧ Below w.heap.size w w' := by
  obtain ⟨g, c, u, hvb, hu, hc⟩ := crc_cell h hk
  obtain ⟨A, n, B', kk, C, i, D, j, rfl, hvb', rfl, rfl⟩ := h.shape
  rw [hvb'] at hvb
  obtain rfl : B' = some ⟨g, 0, none⟩ := by injection hvb
  obtain rfl : kk = c := by injection hvb
  subst hvb'
  have HF := Lib.hid (fit_at hu s)
  have HB : Below w.heap.size w (w.alloc (.cells #[.slice A e.ds.length n, .slice (some ⟨g, 0, none⟩) e.cr.length kk, .slice C e.p.length i, .slice D e.q.length j] 28)) := Below.alloc (Below.refl _ _) (Nat.le_refl _) _
  have hg := World.block_lt_of_cell? w _ hc
  have f1 : ∀ x : Wb (w.alloc (.cells #[.slice A e.ds.length n, .slice (some ⟨g, 0, none⟩) e.cr.length kk, .slice C e.p.length i, .slice D e.q.length j] 28)), x.1.cell? ⟨w.heap.size, 1, none⟩ = some (.slice (some ⟨g, 0, none⟩) e.cr.length kk) := fun x => Wb.cell (by simp) x
  have f2 : ∀ x : Wb (w.alloc (.cells #[.slice A e.ds.length n, .slice (some ⟨g, 0, none⟩) e.cr.length kk, .slice C e.p.length i, .slice D e.q.length j] 28)), x.1.cell? ⟨g, k, none⟩ = some (.int .i64 u) := fun x => Wb.cell ((HB.cell (p := ⟨g, k, none⟩) hg).trans hc) x
  clear h hu hc
  cases h1 : (u == -1)
  · have HF2 : Hid (fitB e.cr k s = ((crcB s : Int) == u)) := Lib.hid (by rw [HF.out, h1, Bool.false_or])
    go_enter Tryz.func59, Tryz.ntmps59
    go_wp2_with (fail)
    refine wp_region_wb (by kernel_rfl) (by kernel_rfl) ?_; (repeat (go_big_quiet_step (first | (go_at_call 85; exact Wb.same (crcS_i s _ (by omega)))))); refine wpQuiet_nil ?_; rintro w1 ⟨⟨w1', hb1⟩, rfl⟩
    go_wp2
    go_ret
    exact ⟨ret_bool HF2.out.symm, HB.trans (hb1.mono (by simp))⟩
  · have HF2 : Hid (fitB e.cr k s = true) := Lib.hid (by rw [HF.out, h1, Bool.true_or])
    go_enter Tryz.func59, Tryz.ntmps59
    go_wp2_with (fail)
    refine wp_region_wb (by kernel_rfl) (by kernel_rfl) ?_; (repeat (go_big_quiet_step (first | (go_at_call 85; exact Wb.same (crcS_i s _ (by omega)))))); refine wpQuiet_nil ?_; rintro w1 ⟨⟨w1', hb1⟩, rfl⟩
    go_wp2
    go_ret
    exact ⟨ret_bool HF2.out.symm, HB.trans (hb1.mono (by simp))⟩
set_option maxRecDepth 20000 in
set_option maxHeartbeats 8000000 in
theorem rd_i (B : Nat) (e : Evd) (va vb vc vd : Value) (k : Nat) (w : World) (h : EvOwn B w e va vb vc vd) (hn : e.ds.length ≤ 1048576) (hk : ∀ d ∈ e.ds, k < d.secs.length) :
    Calls Tryz.prog 62 #[evV va vb vc vd, .int .i64 k] w fun r w' => RetL scell 1 9 w (rdF k e.ds) r w' := by
  obtain ⟨i0, hi, hz0, hz1, hz2⟩ := info_parts scell_info
  obtain ⟨A, n, B', kk, C, i, D, j, rfl, rfl, rfl, rfl⟩ := h.shape
  have hds := h.ds
  have HB : Below w.heap.size w (w.alloc (.cells #[.slice A e.ds.length n, .slice B' e.cr.length kk, .slice C e.p.length i, .slice D e.q.length j] 28)) := Below.alloc (Below.refl _ _) (Nat.le_refl _) _
  have HK := Lib.hid hk
  obtain ⟨A', c', e', hA⟩ := hds
  injection e' with e1 _ e2
  subst e1 e2
  clear h hk
  rcases hA with hl | ⟨g, rfl, _, hg, hc⟩
  · have HR : Hid (rdF k e.ds = []) := Lib.hid (by rw [hl]; rfl)
    obtain ⟨ds, cr, p, q⟩ := e
    dsimp only at hl HB HR HK hn ⊢
    subst hl
    go_enter Tryz.func62, Tryz.ntmps62
    go_wp2
    refine wp_loop_once ?_
    go_wp2
    go_ret
    exact ⟨_, rfl, by rw [HR.out]; exact OwnL.of_nil, HB⟩
  · have HC := Lib.hid hc
    clear hc
    go_enter Tryz.func62, Tryz.ntmps62
    go_wp2
    go_loopw [12, 5] (fun ix out wr => ∃ (j : Nat) (acc : List ByteArray), j ≤ e.ds.length ∧ ix = .int .i64 j ∧ acc.length ≤ j ∧ Below w.heap.size w wr ∧ StringL w.heap.size wr out acc ∧ Hid (rdF k e.ds = acc ++ rdF k (e.ds.drop j))) (fun ix _ _ => e.ds.length - (intOf ix).toNat)
    case atStart => exact ⟨0, [], by omega, rfl, by simp, HB, OwnL.of_nil, Lib.hid rfl⟩
    case round =>
      obtain ⟨j, acc, hj, rfl, hac, hb, how, HM⟩ := hrel
      have zr := hb.size
      by_cases hlt : j < e.ds.length
      · obtain ⟨d, hd⟩ : ∃ d, e.ds[j]? = some d := ⟨e.ds[j], List.getElem?_eq_getElem hlt⟩
        have hkd := HK.out d (List.mem_of_getElem? hd)
        obtain ⟨s, hs⟩ : ∃ s, d.secs[k]? = some s := ⟨d.secs[k], List.getElem?_eq_getElem hkd⟩
        obtain ⟨bv, o1, c1⟩ := HC.out j d hd
        obtain ⟨A2, c2, rfl, hA2⟩ := OwnL.shape o1
        obtain ⟨g2, rfl, _, hg2⟩ := hA2.resolve_left (by intro h0; rw [h0] at hkd; simp at hkd)
        have PC := fun (q : Nat) (u : Value) (hu : (d.ints ++ [.slice (some ⟨g2, 0, none⟩) d.secs.length c2])[q]? = some u) => (hb.cell (p := ⟨g, j * 5 + q, none⟩) hg).trans (c1 q u hu)
        have p0 : wr.cell? ⟨g, j * 5, none⟩ = some (.int .i64 d.cyl) := PC 0 _ rfl
        have p1 := PC 1 _ rfl
        have p2 := PC 2 _ rfl
        have p3 := PC 3 _ rfl
        have p4 := PC 4 _ rfl
        have hg2r : g2 < wr.heap.size := by omega
        have s0 : wr.cell? ⟨g2, k * 2, none⟩ = some (.string s.data) := (hb.cell (p := ⟨g2, _, none⟩) hg2).trans (OwnL.cell Sec.len o1 hs (j := 0) rfl)
        have s1 : wr.cell? ⟨g2, k * 2 + 1, none⟩ = some (.int .i64 s.state) := (hb.cell (p := ⟨g2, _, none⟩) hg2).trans (OwnL.cell Sec.len o1 hs (j := 1) rfl)
        have HD := Lib.hid hd
        have HS := Lib.hid hs
        have HOW := Lib.hid how
        clear PC o1 c1 hd hs how
        have HO : Hid (StringL w.heap.size ((wr.alloc (.cells #[.int .i64 d.cyl, .int .i64 d.heads, .int .i64 d.per, .int .i64 d.size, .slice (some ⟨g2, 0, none⟩) d.secs.length c2] 32)).alloc (.cells #[.string s.data, .int .i64 s.state] 56)) _ acc) := Lib.hid ((HOW.out.alloc _).alloc _)
        have HBB : Below w.heap.size w ((wr.alloc (.cells #[.int .i64 d.cyl, .int .i64 d.heads, .int .i64 d.per, .int .i64 d.size, .slice (some ⟨g2, 0, none⟩) d.secs.length c2] 32)).alloc (.cells #[.string s.data, .int .i64 s.state] 56)) := (hb.alloc zr _).alloc (by simp; omega) _
        by_cases h3 : s.state = 3
        · have HN := rd_no HD.out HS.out HM h3
          have h3' : (s.state != 3) = false := by rw [h3]; rfl
          clear h3
          go_wp2
          go_roundw
          case rel => exact ⟨j + 1, acc, by omega, by go_num, by omega, HBB, HO.out, HN⟩
          case measure => simp [intOf]; omega
        · have HN := rd_yes HD.out HS.out HM h3
          have h3' : (s.state != 3) = true := by simpa using h3
          clear h3
          go_wp2_with (at_builtin; refine stopQ ?_)
          intro _
          refine wpList_app1 scell 1 scell_len _ rfl _ _ _ rfl w.heap.size 9 i0 (.string .empty) 16 Tryz.underlying26 hi hz0 hz1 hz2 rfl (by decide) _ acc rfl (HO.out.alloc _) _ 1 s.data rfl ?_ (by simp [scell, Value.oneCell']) (by omega) (by omega) (by simp; omega) ?_
          · intro j u hu; cases j with | zero => (simp [scell] at hu; subst hu; first | exact cell_alloc3 _ _ _ _ _ | exact cell_alloc2 _ _ _ _ | simp) | succ j => simp [scell] at hu
          intro v' w5 how2 hg2
          go_wp2_with (fail)
          go_roundw
          case rel => exact ⟨j + 1, acc ++ [s.data], by omega, by go_num, by simp; omega, own_grown_below (HO.out.alloc _) (HBB.alloc (by simp; omega) _) hg2 (Nat.le_refl _) (by simp; omega), how2, HN⟩
          case measure => simp [intOf]; omega
      · go_wp2
        go_ret
        exact ⟨_, rfl, by rw [rdg_end (by omega) HM]; exact how, hb⟩
end Go.Proofs.YtddihmpiaemadaaGreatDoor
namespace Go.Proofs.YtddihmpiaemadaaGreatDoor
set_option linter.unusedVariables false
set_option linter.unusedSimpArgs false
open Go.RowKit
def fiE (s : ByteArray) (l : List Int) (c : Int) : ByteArray × Int := if unkOk s l c then (match redS (rowsOf s (l.map Int.toNat) c.toNat) with | none => (.empty, 3) | some b => (strN (fillN (bts s) (l.map Int.toNat) (comp low (leastR b l.length) 0).testBit), 0)) else (.empty, 1)
def fiV (s : ByteArray) (l : List Int) (c : Int) : Value := .tuple #[.string (fiE s l c).1, .int .i64 (fiE s l c).2]
theorem totN_one (n : Nat) : totN 1 n = 1 := by
  unfold totN; split
  · rfl
  · have := Nat.two_pow_pos n; omega
theorem outI_one (l unk : List Nat) (rows : List Rw) : outI l unk rows 1 = [strN (fillOf l unk top rows (freeU top rows unk.length).reverse 0)] := rfl
end Go.Proofs.YtddihmpiaemadaaGreatDoor
