/- ValidEvidence, the reference: the walks. -/
import Derived.Test.YtfcdienphillnaaGreatCk31
namespace Go.Proofs.YtfcdienphillnaaGreat
set_option linter.unusedVariables false
set_option linter.unusedSimpArgs false
open Go.RowKit
set_option maxRecDepth 20000 in
set_option maxHeartbeats 4000000 in
theorem par_s (z : Dsc) (gz oz c : Nat) (AL : Option Addr) (l : List ByteArray) (w : World) (h0 : w.cell? ⟨gz, oz, none⟩ = some (.int .i64 z.cyl)) (h1 : w.cell? ⟨gz, oz + 1, none⟩ = some (.int .i64 z.heads)) (h3 : w.cell? ⟨gz, oz + 3, none⟩ = some (.int .i64 z.size))
    (hgz : geoB z.cyl z.heads z.per z.size = true) (hA : StrAt w AL l) (hl : l.length ≤ 1048576) (hm : ∀ s ∈ l, s.size ≤ maxLen) :
    Calls Tryz.prog 96 #[.pointer (some ⟨gz, oz, none⟩), .slice AL l.length c] w fun e w' => e = .returned (.bool (parOk z l)) ∧ Below w.heap.size w w' := by
  obtain ⟨g1, g2, g3, g4⟩ := geo_parts hgz
  obtain ⟨m1, m2⟩ := prod_bd g1 g2 g3
  have hgb := World.block_lt_of_cell? w _ h0
  have v0 : ∀ x : Wb w, x.1.cell? ⟨gz, oz, none⟩ = some (.int .i64 z.cyl) := fun x => Wb.cell h0 x
  have v1 : ∀ x : Wb w, x.1.cell? ⟨gz, oz + 1, none⟩ = some (.int .i64 z.heads) := fun x => Wb.cell h1 x
  cases hln : ((l.length : Int) == z.cyl * z.heads)
  · have HN : Hid (parOk z l = false) := Lib.hid (by unfold parOk; rw [hln]; rfl)
    have hne : ((l.length : Int) != z.cyl * z.heads) = true := by unfold bne; rw [hln]; rfl
    clear hln
    go_enter Tryz.func96, Tryz.ntmps96
    go_wp2_with (fail)
    refine wp_region_wb (by kernel_rfl) (by kernel_rfl) ?_; (repeat (go_big_quiet_step (fail))); refine wpQuiet_nil ?_; rintro w1 ⟨⟨w1', hb1⟩, rfl⟩
    go_wp2
    go_ret
    exact ⟨ret_bool HN.out.symm, hb1⟩
  · have HN : Hid (parOk z l = ((l.drop 0).all (parB (szN z.size)) && true)) := Lib.hid (by unfold parOk; rw [hln, Bool.true_and, Bool.and_true, List.drop_zero])
    have hne : ((l.length : Int) != z.cyl * z.heads) = false := by unfold bne; rw [hln]; rfl
    have HLN := Lib.hid hln
    clear hln
    go_enter Tryz.func96, Tryz.ntmps96
    go_wp2_with (fail)
    refine wp_region_wb (by kernel_rfl) (by kernel_rfl) ?_; (repeat (go_big_quiet_step (fail))); refine wpQuiet_nil ?_; rintro w1 ⟨⟨w1', hb1⟩, rfl⟩
    have z1 := hb1.size
    clear v0 v1 hne
    go_wp2
    go_loopw [5] (fun ix wr => ∃ m : Nat, m ≤ l.length ∧ ix = .int .i64 m ∧ Below w.heap.size w wr ∧ Hid (parOk z l = ((l.drop m).all (parB (szN z.size)) && true))) (fun ix _ => l.length - (intOf ix).toNat)
    case atStart => exact ⟨0, by omega, rfl, hb1, HN⟩
    case round =>
      obtain ⟨m, hm', rfl, hb, HM⟩ := hrel
      have zr := hb.size
      by_cases hlm : m < l.length
      · obtain ⟨s, hs⟩ : ∃ s, l[m]? = some s := ⟨l[m], List.getElem?_eq_getElem hlm⟩
        obtain ⟨g, rfl, hg, hc⟩ := hA.resolve_left (by intro h0; rw [h0] at hlm; simp at hlm)
        have ps : ∀ x : Wb wr, x.1.cell? ⟨g, m, none⟩ = some (.string s) := fun x => Wb.cell ((hb.cell (p := ⟨g, m, none⟩) hg).trans (hc m s hs)) x
        have v3 : ∀ x : Wb wr, x.1.cell? ⟨gz, oz + 3, none⟩ = some (.int .i64 z.size) := fun x => Wb.cell ((hb.cell (p := ⟨gz, oz + 3, none⟩) hgb).trans h3) x
        have hsm := hm s (List.mem_of_getElem? hs)
        unfold maxLen at hsm
        have HSS := Lib.hid hs
        have hz8 := szN_le g4
        clear hs hc
        by_cases he : s.size = 0
        · have HX := al_yes HSS.out HM (par_empty he)
          have h1 := emp_nil he
          have h1' : s.toList.isEmpty = true := by rw [h1]; rfl
          have h1'' : (s.toList != []) = false := by rw [h1]; rfl
          have HE := Lib.hid he
          clear he
          go_wp2_with (fail)
          refine wp_region_wb (by kernel_rfl) (by kernel_rfl) ?_; (repeat (go_big_quiet_step (first | (go_at_call 116; exact Wb.same (bytes_s _ _ g4))))); refine wpQuiet_nil ?_; rintro w2 ⟨⟨w2', hb2⟩, rfl⟩
          go_wp2
          go_roundw
          case rel => exact ⟨m + 1, by omega, by go_num, hb.trans (hb2.mono zr), HX⟩
          case measure => simp [intOf]; omega
        · have h1 := emp_ne he
          have h1' : s.toList.isEmpty = false := by simpa using h1
          have h1'' : (s.toList != []) = true := by simpa using h1
          by_cases he2 : s.size = szN z.size
          · have HX := al_yes HSS.out HM (par_same he2)
            have h2 : ((s.size : Int) != (szN z.size : Nat)) = false := by rw [bne_eq_false_iff_eq]; omega
            have HE := Lib.hid (And.intro he he2)
            clear he he2
            go_wp2_with (fail)
            refine wp_region_wb (by kernel_rfl) (by kernel_rfl) ?_; (repeat (go_big_quiet_step (first | (go_at_call 116; exact Wb.same (bytes_s _ _ g4))))); refine wpQuiet_nil ?_; rintro w2 ⟨⟨w2', hb2⟩, rfl⟩
            go_wp2
            go_roundw
            case rel => exact ⟨m + 1, by omega, by go_num, hb.trans (hb2.mono zr), HX⟩
            case measure => simp [intOf]; omega
          · have HX := al_no HSS.out HM (par_bad he he2)
            have h2 : ((s.size : Int) != (szN z.size : Nat)) = true := by rw [bne_iff_ne]; omega
            go_wp2_with (fail)
            refine wp_region_wb (by kernel_rfl) (by kernel_rfl) ?_; (repeat (go_big_quiet_step (first | (go_at_call 116; exact Wb.same (bytes_s _ _ g4))))); refine wpQuiet_nil ?_; rintro w2 ⟨⟨w2', hb2⟩, rfl⟩
            go_wp2
            go_ret
            exact ⟨ret_bool HX.symm, hb.trans (hb2.mono zr)⟩
      · go_wp2
        go_ret
        exact ⟨ret_bool (al_end (by omega) HM).symm, hb⟩
/-- the cells of a box of evidence -/
structure EvBox (gb : Nat) (w : World) (a b c d : Value) : Prop where
  c0 : w.cell? ⟨gb, 0, none⟩ = some a
  c1 : w.cell? ⟨gb, 1, none⟩ = some b
  c2 : w.cell? ⟨gb, 2, none⟩ = some c
  c3 : w.cell? ⟨gb, 3, none⟩ = some d
theorem EvBox.below {gb : Nat} {w w' : World} {a b c d : Value} (h : EvBox gb w a b c d) (hb : Below w.heap.size w w') : EvBox gb w' a b c d := by
  have hl := World.block_lt_of_cell? w _ h.c0
  exact ⟨(hb.cell (p := ⟨gb, 0, none⟩) hl).trans h.c0, (hb.cell (p := ⟨gb, 1, none⟩) hl).trans h.c1, (hb.cell (p := ⟨gb, 2, none⟩) hl).trans h.c2, (hb.cell (p := ⟨gb, 3, none⟩) hl).trans h.c3⟩
set_option maxRecDepth 20000 in
set_option maxHeartbeats 8000000 in
theorem evp_s (B gb : Nat) (e : Evd) (va vb vc vd : Value) (w : World) (hx : EvBox gb w va vb vc vd) (h : EvOwn B w e va vb vc vd) (hs : EvSmall e) :
    Calls Tryz.prog 60 #[.pointer (some ⟨gb, 0, none⟩)] w fun r w' => r = .returned (.bool (evOk e)) ∧ Below w.heap.size w w' := by
  obtain ⟨A, n, B', k, C, i, D, j, rfl, rfl, rfl, rfl⟩ := h.shape
  have hgb := World.block_lt_of_cell? w _ hx.c0
  have hb2 := hs.cr
  have hb3 := hs.p
  have hb4 := hs.q
  have hb5 := hs.ds
  by_cases hlen : 1 ≤ e.ds.length ∧ e.ds.length ≤ 5
  rotate_left
  · have b0 : inB e.ds.length 1 5 = false := inB_f (by omega)
    have HF : Hid (evOk e = false) := Lib.hid (ev_no0 (by
      by_cases h : 5 < e.ds.length
      · exact du_long h
      · have : e.ds = [] := List.eq_nil_of_length_eq_zero (by omega)
        rw [this]; rfl))
    have c0 := hx.c0
    clear hx h hs
    go_enter Tryz.func60, Tryz.ntmps60
    go_wp2_with (first | (go_at_call 43; refine (in_s _ _ _ _).mono ?_; rintro r w1 ⟨rfl, rfl⟩))
    go_ret
    exact ⟨ret_bool HF.out.symm, Below.refl _ _⟩
  · have b0 : inB e.ds.length 1 5 = true := inB_t (by omega)
    obtain ⟨z, hz⟩ : ∃ z, e.ds[0]? = some z := ⟨e.ds[0]'(by omega), List.getElem?_eq_getElem (by omega)⟩
    have HDU := Lib.hid (du_at hz hlen.2)
    have HZ := Lib.hid hz
    have hzs := hs.secs z (List.mem_of_getElem? hz)
    have HX := Lib.hid hx
    have HS := Lib.hid hs
    have HCR : Hid (∀ (w' : World), Below w.heap.size w w' → ∀ (g : Nat), B' = some ⟨g, 0, none⟩ → ∀ (m : Nat) (u : Int), e.cr[m]? = some u → w'.cell? ⟨g, m, none⟩ = some (.int .i64 u)) := Lib.hid (fun w' hb g hg m u hu => by
      subst hg
      exact Int64L.at_ (OwnL.below h.cr hb) rfl hu)
    have HCA : e.cr = [] ∨ ∃ g, B' = some ⟨g, 0, none⟩ := by
      obtain ⟨A1, c1, e1, hA1⟩ := OwnL.shape h.cr
      injection e1 with e1 _ _
      subst e1
      rcases hA1 with hA1 | ⟨g, hg, _⟩
      · exact .inl hA1
      · exact .inr ⟨g, hg⟩
    have HP := Lib.hid (StrAt.of h.p rfl)
    have HQ := Lib.hid (StrAt.of h.q rfl)
    obtain ⟨A', c', e', hA'⟩ := h.ds
    injection e' with e1 _ e2
    subst e1 e2
    obtain ⟨gd, rfl, _, hgd, hcd⟩ := hA'.resolve_left (by intro h0; rw [h0] at hz; cases hz)
    obtain ⟨bz, oz, cz0⟩ := hcd 0 z hz
    obtain ⟨Az, cz, rfl, _⟩ := OwnL.shape oz
    have HCD := Lib.hid hcd
    have HY : Hid (∀ (m : Nat) (u : Value), (z.ints ++ [.slice Az z.secs.length cz])[m]? = some u → w.cell? ⟨gd, m, none⟩ = some u) := Lib.hid (fun m u hu => by have := cz0 m u hu; simpa using this)
    have c0 := hx.c0
    clear h hx hs hA' hcd cz0 oz hz
    go_enter Tryz.func60, Tryz.ntmps60
    go_wp2_with (first | (go_at_call 43; refine (in_s _ _ _ _).mono ?_; rintro r w1 ⟨rfl, rfl⟩))
    go_loopw [4] (fun ix wr => ∃ m : Nat, m ≤ e.ds.length ∧ ix = .int .i64 m ∧ Below w.heap.size w wr ∧ Hid (dumpsOk e.ds = (e.ds.drop m).all fun d => discOk d && sameG d z)) (fun ix _ => e.ds.length - (intOf ix).toNat)
    case atStart => exact ⟨0, by omega, rfl, Below.refl _ _, HDU⟩
    case round =>
      obtain ⟨m, hm, rfl, hb, HM⟩ := hrel
      have zr := hb.size
      have k0 := (hb.cell (p := ⟨gb, 0, none⟩) hgb).trans HX.out.c0
      by_cases hlt : m < e.ds.length
      · obtain ⟨d, hd⟩ : ∃ d, e.ds[m]? = some d := ⟨e.ds[m], List.getElem?_eq_getElem hlt⟩
        obtain ⟨bv, od, cd⟩ := HCD.out m d hd
        obtain ⟨A2, c2, rfl, hA2⟩ := OwnL.shape od
        have hmem := List.mem_of_getElem? hd
        have PC := fun (q : Nat) (u : Value) (hu : (d.ints ++ [.slice A2 d.secs.length c2])[q]? = some u) => (hb.cell (p := ⟨gd, m * 5 + q, none⟩) hgd).trans (cd q u hu)
        have p0 : wr.cell? ⟨gd, m * 5, none⟩ = some (.int .i64 d.cyl) := PC 0 _ rfl
        have p1 := PC 1 _ rfl
        have p2 := PC 2 _ rfl
        have p3 := PC 3 _ rfl
        have p4 := PC 4 _ rfl
        have HOK := Lib.hid (discq_s d gd (m * 5) c2 A2 wr p0 p1 p2 p3 p4 (by
          by_cases hl0 : d.secs = []
          · exact .inl hl0
          · obtain ⟨g, rfl, _, hg⟩ := hA2.resolve_left hl0
            exact .inr ⟨g, rfl, Nat.lt_of_lt_of_le hg zr, fun q s hq => ⟨(hb.cell (p := ⟨g, _, none⟩) hg).trans (OwnL.cell Sec.len od hq (j := 0) rfl), (hb.cell (p := ⟨g, _, none⟩) hg).trans (OwnL.cell Sec.len od hq (j := 1) rfl)⟩⟩) (HS.out.secs d hmem) (HS.out.data d hmem))
        have PA := fun (q : Nat) (u : Value) (hu : (d.ints ++ [.slice A2 d.secs.length c2])[q]? = some u) (w' : World) (hb' : Below wr.heap.size wr w') (x : Wb w') => Wb.cell (b := gd) (o := m * 5 + q) ((hb'.cell (p := ⟨gd, m * 5 + q, none⟩) (Nat.lt_of_lt_of_le hgd zr)).trans (PC q u hu)) x
        have PZ := fun (q : Nat) (u : Value) (hu : (z.ints ++ [.slice Az z.secs.length cz])[q]? = some u) (w' : World) (hb' : Below wr.heap.size wr w') (x : Wb w') => Wb.cell (b := gd) (o := q) ((hb'.cell (p := ⟨gd, q, none⟩) (Nat.lt_of_lt_of_le hgd zr)).trans ((hb.cell (p := ⟨gd, q, none⟩) hgd).trans (HY.out q u hu))) x
        have HAL := Lib.hid (fun (w' : World) (hb' : Below wr.heap.size wr w') => alike_s d z gd (m * 5) gd 0 w' (PA 0 _ rfl w' hb') (PA 1 _ rfl w' hb') (PA 2 _ rfl w' hb') (PA 3 _ rfl w' hb') (PZ 0 _ rfl w' hb') (PZ 1 _ rfl w' hb') (PZ 2 _ rfl w' hb') (PZ 3 _ rfl w' hb'))
        have HD := Lib.hid hd
        clear hd PC PA PZ p0 p1 p2 p3 p4 od cd hA2
        cases h1 : discOk d
        · have HN := Lib.hid (du_no (z := z) HD.out HM (by rw [h1]; rfl))
          rw [h1] at HOK
          go_wp2_with (fail)
          refine HOK.out.mono ?_; rintro r w2 ⟨rfl, hb2⟩
          go_wp2
          go_ret
          exact ⟨ret_bool (ev_no0 HN.out).symm, hb.trans (hb2.mono zr)⟩
        · rw [h1] at HOK
          cases h2 : sameG d z
          · have HN := Lib.hid (du_no (z := z) HD.out HM (by rw [h1, h2]; rfl))
            rw [h2] at HAL
            go_wp2_with (fail)
            refine HOK.out.mono ?_; rintro r w2 ⟨rfl, hb2⟩
            have k0' := (hb2.cell (p := ⟨gb, 0, none⟩) (Nat.lt_of_lt_of_le hgb zr)).trans k0
            clear k0
            go_wp2_with (fail)
            refine (HAL.out w2 hb2).mono ?_; rintro r w3 ⟨rfl, hb3⟩
            go_wp2
            go_ret
            exact ⟨ret_bool (ev_no0 HN.out).symm, (hb.trans (hb2.mono zr)).trans (hb3.mono (Nat.le_trans zr hb2.size))⟩
          · have HN := du_yes (z := z) HD.out HM (by rw [h1, h2]; rfl)
            rw [h2] at HAL
            go_wp2_with (fail)
            refine HOK.out.mono ?_; rintro r w2 ⟨rfl, hb2⟩
            have k0' := (hb2.cell (p := ⟨gb, 0, none⟩) (Nat.lt_of_lt_of_le hgb zr)).trans k0
            clear k0
            go_wp2_with (fail)
            refine (HAL.out w2 hb2).mono ?_; rintro r w3 ⟨rfl, hb3⟩
            go_wp2
            go_roundw
            case rel => exact ⟨m + 1, by omega, by go_num, (hb.trans (hb2.mono zr)).trans (hb3.mono (Nat.le_trans zr hb2.size)), HN⟩
            case measure => simp [intOf]; omega
      · have hok := du_end (by omega) HM
        have HEV := Lib.hid (ev_at hok HZ.out)
        have hgz := disc_geo (dps_ok hok HZ.out)
        have HOK := Lib.hid hok
        have k1 : ∀ x : Wb wr, x.1.cell? ⟨gb, 1, none⟩ = some (.slice B' e.cr.length k) := fun x => Wb.cell ((hb.cell (p := ⟨gb, 1, none⟩) hgb).trans HX.out.c1) x
        have y4 : ∀ x : Wb wr, x.1.cell? ⟨gd, 4, none⟩ = some (.slice Az z.secs.length cz) := fun x => Wb.cell ((hb.cell (p := ⟨gd, 4, none⟩) hgd).trans (HY.out 4 _ rfl)) x
        clear hok HM HDU
        by_cases hcl : e.cr.length = z.secs.length
        rotate_left
        · have HF := Lib.hid (ev_no1 HEV.out hcl)
          have hn1 : ((e.cr.length : Int) != (z.secs.length : Int)) = true := by rw [bne_iff_ne]; omega
          go_wp2_with (fail)
          refine wp_region_wb (by kernel_rfl) (by kernel_rfl) ?_; (repeat (go_big_quiet_step (fail))); refine wpQuiet_nil ?_; rintro w1 ⟨⟨w1', hb1⟩, rfl⟩
          go_wp2
          go_ret
          exact ⟨ret_bool HF.out.symm, hb.trans (hb1.mono zr)⟩
        · have HF := Lib.hid (ev_yes1 HEV.out hcl)
          have hn1 : ((e.cr.length : Int) != (z.secs.length : Int)) = false := by rw [bne_eq_false_iff_eq]; omega
          clear hcl HEV
          go_wp2_with (fail)
          refine wp_region_wb (by kernel_rfl) (by kernel_rfl) ?_; (repeat (go_big_quiet_step (fail))); refine wpQuiet_nil ?_; rintro w1 ⟨⟨w1', hb1⟩, rfl⟩
          have B1 : Below w.heap.size w w1 := hb.trans (hb1.mono zr)
          have k1' := k1 ⟨w1, hb1⟩
          dsimp only at k1'
          clear k1 y4 hn1 k0 hb1 hb zr
          have HF2 : Hid (evOk e = ((e.cr.drop 0).all crcR && (parOk z e.p && parOk z e.q))) := Lib.hid (by rw [HF.out]; simp)
          clear HF
          generalize hwo : wr = wo at *
          clear hwo
          go_wp2
          go_loop [5] (fun ix => ∃ m : Nat, m ≤ e.cr.length ∧ ix = .int .i64 m ∧ Hid (evOk e = ((e.cr.drop m).all crcR && (parOk z e.p && parOk z e.q)))) (fun ix => e.cr.length - (intOf ix).toNat)
          case atStart => exact ⟨0, by omega, rfl, HF2⟩
          case round =>
            obtain ⟨m, hm, rfl, HK⟩ := hrel
            by_cases hlt : m < e.cr.length
            · obtain ⟨u, hu⟩ : ∃ u, e.cr[m]? = some u := ⟨e.cr[m], List.getElem?_eq_getElem hlt⟩
              obtain ⟨g, rfl⟩ := HCA.resolve_left (by intro h0; rw [h0] at hlt; simp at hlt)
              have pu := HCR.out w1 B1 g rfl m u hu
              have HU := Lib.hid hu
              clear hu
              cases hin : inB u (-1) 65535
              · have HN := al_no HU.out HK hin
                go_wp2_with (go_at_call 43; refine (in_s _ _ _ _).mono ?_; rintro r w3 ⟨rfl, rfl⟩)
                go_ret
                exact ⟨ret_bool HN.symm, B1⟩
              · have HN := al_yes HU.out HK hin
                go_wp2_with (go_at_call 43; refine (in_s _ _ _ _).mono ?_; rintro r w3 ⟨rfl, rfl⟩)
                go_round
                case rel => exact ⟨m + 1, by omega, by go_num, HN⟩
                case measure => simp [intOf]; omega
            · have HL := Lib.hid (al_end (by omega) HK)
              clear HK
              have k2 := (B1.cell (p := ⟨gb, 2, none⟩) hgb).trans HX.out.c2
              have HPP := Lib.hid (par_s z gd 0 i C e.p w1 ((B1.cell (p := ⟨gd, 0, none⟩) hgd).trans (HY.out 0 _ rfl)) ((B1.cell (p := ⟨gd, 1, none⟩) hgd).trans (HY.out 1 _ rfl)) ((B1.cell (p := ⟨gd, 3, none⟩) hgd).trans (HY.out 3 _ rfl)) hgz (HP.out.below B1) HS.out.p HS.out.ps)
              cases hp : parOk z e.p
              · have HN : Hid (evOk e = false) := Lib.hid (by rw [HL.out, hp]; rfl)
                rw [hp] at HPP
                go_wp2_with (fail)
                refine HPP.out.mono ?_; rintro r w2 ⟨rfl, hb2⟩
                go_wp2
                go_ret
                exact ⟨ret_bool HN.out.symm, B1.trans (hb2.mono B1.size)⟩
              · have HN : Hid (evOk e = parOk z e.q) := Lib.hid (by rw [HL.out, hp]; rfl)
                rw [hp] at HPP
                go_wp2_with (fail)
                refine HPP.out.mono ?_; rintro r w2 ⟨rfl, hb2⟩
                have B2 : Below w.heap.size w w2 := B1.trans (hb2.mono B1.size)
                have k3 := (B2.cell (p := ⟨gb, 3, none⟩) hgb).trans HX.out.c3
                have HQQ := Lib.hid (par_s z gd 0 j D e.q w2 ((B2.cell (p := ⟨gd, 0, none⟩) hgd).trans (HY.out 0 _ rfl)) ((B2.cell (p := ⟨gd, 1, none⟩) hgd).trans (HY.out 1 _ rfl)) ((B2.cell (p := ⟨gd, 3, none⟩) hgd).trans (HY.out 3 _ rfl)) hgz (HQ.out.below B2) HS.out.q HS.out.qs)
                clear k2
                go_wp2_with (fail)
                refine HQQ.out.mono ?_; rintro r w3 ⟨rfl, hb3⟩
                go_wp2
                go_ret
                exact ⟨ret_bool HN.out.symm, B2.trans (hb3.mono B2.size)⟩
set_option maxHeartbeats 2000000 in
theorem ev_s (B : Nat) (e : Evd) (va vb vc vd : Value) (w : World) (h : EvOwn B w e va vb vc vd) (hs : EvSmall e) :
    Calls Tryz.prog 35 #[evV va vb vc vd] w fun r w' => r = .returned (.bool (evOk e)) ∧ Below w.heap.size w w' := by
  have HB : Below w.heap.size w (w.alloc (.cells #[va, vb, vc, vd] 39)) := Below.alloc (Below.refl _ _) (Nat.le_refl _) _
  have HE := Lib.hid (evp_s B w.heap.size e va vb vc vd (w.alloc (.cells #[va, vb, vc, vd] 39)) ⟨by simp, by simp, by simp, by simp⟩ (h.below HB) hs)
  obtain ⟨A, n, B', k, C, i, D, j, rfl, rfl, rfl, rfl⟩ := h.shape
  clear h
  go_enter Tryz.func35, Tryz.ntmps35
  go_wp2_with (fail)
  refine HE.out.mono ?_; rintro r w1 ⟨rfl, hb1⟩
  go_wp2
  go_ret
  exact ⟨rfl, HB.trans (hb1.mono (by simp))⟩
end Go.Proofs.YtfcdienphillnaaGreat
