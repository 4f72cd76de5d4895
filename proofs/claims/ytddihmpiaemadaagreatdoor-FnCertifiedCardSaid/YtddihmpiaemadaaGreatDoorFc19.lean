/- ValidEvidence, impl: the walk. A disc behind any address, the reference: the walks. -/
import Derived.Test.YtddihmpiaemadaaGreatDoorFc05
import Derived.Test.YtddihmpiaemadaaGreatDoorFc04
namespace Go.Proofs.YtddihmpiaemadaaGreatDoor
set_option linter.unusedVariables false
set_option linter.unusedSimpArgs false
open Go.RowKit
theorem emp_nil {s : ByteArray} (h : s.size = 0) : s.toList = [] := by rw [ByteArray.toList_eq]; exact List.eq_nil_of_length_eq_zero (by simpa using h)
theorem emp_ne {s : ByteArray} (h : ¬ s.size = 0) : ¬ s.toList = [] := by
  intro e
  rw [ByteArray.toList_eq] at e
  exact h (by have := congrArg List.length e; simpa using this)
/-- evidence as a call finds it -/
structure EvSmall (e : Evd) : Prop where
  ds : e.ds.length ≤ 1048576
  secs : ∀ d ∈ e.ds, d.secs.length ≤ 1048576
  data : ∀ d ∈ e.ds, ∀ s ∈ d.secs, s.data.size ≤ maxLen
  cr : e.cr.length ≤ 1048576
  p : e.p.length ≤ 1048576
  q : e.q.length ≤ 1048576
  ps : ∀ s ∈ e.p, s.size ≤ maxLen
  qs : ∀ s ∈ e.q, s.size ≤ maxLen
set_option maxRecDepth 20000 in
set_option maxHeartbeats 8000000 in
theorem ev_i (B : Nat) (e : Evd) (va vb vc vd : Value) (w : World) (h : EvOwn B w e va vb vc vd) (hs : EvSmall e) :
    Calls Tryz.prog 17 #[evV va vb vc vd] w fun r w' => r = .returned (.bool (evOk e)) ∧ Below w.heap.size w w' := by
  obtain ⟨A, n, B', k, C, i, D, j, rfl, rfl, rfl, rfl⟩ := h.shape
  have HB : Below w.heap.size w (w.alloc (.cells #[.slice A e.ds.length n, .slice B' e.cr.length k, .slice C e.p.length i, .slice D e.q.length j] 28)) := (by repeat (first | exact Below.refl _ _ | refine Below.alloc ?_ (by first | omega | (simp; done) | (simp; omega)) _ | apply Below.drew | apply below_drewN | refine Below.setCell ?_ (by first | omega | (simp; done) | (simp; omega)) _ | refine Below.trans ?_ (Below.mono (by assumption) (by first | omega | (simp; done) | (simp; omega)))))
  have z0 : ((w.alloc (.cells #[.slice A e.ds.length n, .slice B' e.cr.length k, .slice C e.p.length i, .slice D e.q.length j] 28))).heap.size = w.heap.size + 1 := by simp
  have f0 : ∀ x : Wb (w.alloc (.cells #[.slice A e.ds.length n, .slice B' e.cr.length k, .slice C e.p.length i, .slice D e.q.length j] 28)), x.1.cell? ⟨w.heap.size, 0, none⟩ = some (.slice A e.ds.length n) := fun x => Wb.cell (by simp) x
  have f1 : ∀ x : Wb (w.alloc (.cells #[.slice A e.ds.length n, .slice B' e.cr.length k, .slice C e.p.length i, .slice D e.q.length j] 28)), x.1.cell? ⟨w.heap.size, 1, none⟩ = some (.slice B' e.cr.length k) := fun x => Wb.cell (by simp) x
  have f2 : ∀ x : Wb (w.alloc (.cells #[.slice A e.ds.length n, .slice B' e.cr.length k, .slice C e.p.length i, .slice D e.q.length j] 28)), x.1.cell? ⟨w.heap.size, 2, none⟩ = some (.slice C e.p.length i) := fun x => Wb.cell (by simp) x
  have f3 : ∀ x : Wb (w.alloc (.cells #[.slice A e.ds.length n, .slice B' e.cr.length k, .slice C e.p.length i, .slice D e.q.length j] 28)), x.1.cell? ⟨w.heap.size, 3, none⟩ = some (.slice D e.q.length j) := fun x => Wb.cell (by simp) x
  have HV : Hid (∀ x : Wb (w.alloc (.cells #[.slice A e.ds.length n, .slice B' e.cr.length k, .slice C e.p.length i, .slice D e.q.length j] 28)), Calls Tryz.prog 40 #[.slice A e.ds.length n] x.1 fun r w' => r = .returned (.bool (dumpsOk e.ds)) ∧ Below x.1.heap.size x.1 w') := Lib.hid (fun x => dumps_i B e.ds _ x.1 ((h.ds.below HB).below x.2) hs.ds hs.secs hs.data)
  have HCR : Hid (∀ (w' : World), Below w.heap.size w w' → ∀ (g : Nat), B' = some ⟨g, 0, none⟩ → ∀ (m : Nat) (u : Int), e.cr[m]? = some u → w'.cell? ⟨g, m, none⟩ = some (.int .i64 u)) := Lib.hid (fun w' hb g hg m u hu => by
    subst hg
    exact Int64L.at_ (OwnL.below h.cr hb) rfl hu)
  have HCA : e.cr = [] ∨ ∃ g, B' = some ⟨g, 0, none⟩ := by
    obtain ⟨A1, c1, e1, hA1⟩ := OwnL.shape h.cr
    injection e1 with e1 _ _
    subst e1
    rcases hA1 with hA1 | ⟨g, hg, _⟩
    · exact .inl hA1
    · exact .inr ⟨g, hg⟩
  have HP := Lib.hid (StrAt.of h.p rfl)
  have HQ := Lib.hid (StrAt.of h.q rfl)
  have hs3 := hs.cr
  have hs4 := hs.p
  have hs5 := hs.q
  have hd0 := Lib.hid h.ds
  cases hok : dumpsOk e.ds
  · have HF := Lib.hid (ev_no0 hok)
    rw [hok] at HV
    clear h hs
    go_enter Tryz.func17, Tryz.ntmps17
    go_wp2_with (fail)
    refine wp_region_wb (by kernel_rfl) (by kernel_rfl) ?_; (repeat (go_big_quiet_step (first | (go_at_call 40; exact Wb.calls (HV.out _))))); refine wpQuiet_nil ?_; rintro w1 ⟨⟨w1', hb1⟩, rfl⟩
    go_wp2
    go_ret
    exact ⟨ret_bool HF.out.symm, HB.trans (hb1.mono (by omega))⟩
  · obtain ⟨z, hz⟩ := dps_first hok
    have hgz := disc_geo (dps_ok hok hz)
    obtain ⟨g1, g2, g3, g4⟩ := geo_parts hgz
    obtain ⟨m1, m2⟩ := prod_bd g1 g2 g3
    have hzs := hs.secs z (List.mem_of_getElem? hz)
    have HEV := Lib.hid (ev_at hok hz)
    rw [hok] at HV
    obtain ⟨A', c', e', hA'⟩ := hd0.out
    injection e' with e1 _ e2
    subst e1 e2
    obtain ⟨gd, rfl, _, hgd, hcd⟩ := hA'.resolve_left (by intro h0; rw [h0] at hz; cases hz)
    obtain ⟨bz, oz, cz0⟩ := hcd 0 z hz
    obtain ⟨Az, cz, rfl, _⟩ := OwnL.shape oz
    have hl0 : 0 < e.ds.length := (List.getElem?_eq_some_iff.1 hz).1
    have QZ := fun (m : Nat) (u : Value) (hu : (z.ints ++ [.slice Az z.secs.length cz])[m]? = some u) (x : Wb (w.alloc (.cells #[.slice (some ⟨gd, 0, none⟩) e.ds.length n, .slice B' e.cr.length k, .slice C e.p.length i, .slice D e.q.length j] 28))) => Wb.cell (b := gd) (o := m) (HB.cell (p := ⟨gd, m, none⟩) hgd |>.trans (by have := cz0 m u hu; simpa using this)) x
    have y0 := QZ 0 _ rfl
    have y1 := QZ 1 _ rfl
    have y2 := QZ 2 _ rfl
    have y3 := QZ 3 _ rfl
    have y4 := QZ 4 _ rfl
    clear QZ hA' hcd cz0 oz hd0 hgz hz hok h
    by_cases hcl : e.cr.length = z.secs.length
    rotate_left
    · have HF := Lib.hid (ev_no1 HEV.out hcl)
      have hn1 : ((e.cr.length : Int) != (z.secs.length : Int)) = true := by rw [bne_iff_ne]; omega
      clear hs
      go_enter Tryz.func17, Tryz.ntmps17
      go_wp2_with (fail)
      refine wp_region_wb (by kernel_rfl) (by kernel_rfl) ?_; (repeat (go_big_quiet_step (first | (go_at_call 40; exact Wb.calls (HV.out _))))); refine wpQuiet_nil ?_; rintro w1 ⟨⟨w1', hb1⟩, rfl⟩
      go_wp2
      go_ret
      exact ⟨ret_bool HF.out.symm, HB.trans (hb1.mono (by omega))⟩
    · have HF := Lib.hid (ev_yes1 HEV.out hcl)
      have hn1 : ((e.cr.length : Int) != (z.secs.length : Int)) = false := by rw [bne_eq_false_iff_eq]; omega
      clear hcl HEV
      have HS := Lib.hid hs
      clear hs
      go_enter Tryz.func17, Tryz.ntmps17
      go_wp2_with (fail)
      refine wp_region_wb (by kernel_rfl) (by kernel_rfl) ?_; (repeat (go_big_quiet_step (first | (go_at_call 40; exact Wb.calls (HV.out _))))); refine wpQuiet_nil ?_; rintro w1 ⟨⟨w1', hb1⟩, rfl⟩
      have X1 : Wb (w.alloc (.cells #[.slice (some ⟨gd, 0, none⟩) e.ds.length n, .slice B' e.cr.length k, .slice C e.p.length i, .slice D e.q.length j] 28)) := ⟨w1, hb1⟩
      have p0 := f0 ⟨w1, hb1⟩
      have p1 := f1 ⟨w1, hb1⟩
      have p2 := f2 ⟨w1, hb1⟩
      have p3 := f3 ⟨w1, hb1⟩
      have k0 := y0 ⟨w1, hb1⟩
      have k1 := y1 ⟨w1, hb1⟩
      have k2 := y2 ⟨w1, hb1⟩
      have k3 := y3 ⟨w1, hb1⟩
      have k4 := y4 ⟨w1, hb1⟩
      dsimp only at p0 p1 p2 p3 k0 k1 k2 k3 k4
      have B1 : Below w.heap.size w w1 := HB.trans (hb1.mono (by omega))
      have z1 : w.heap.size + 1 ≤ w1.heap.size := by have := hb1.size; omega
      clear f0 f1 f2 f3 y0 y1 y2 y3 y4 X1 hn1 HV
      have q1 : ((w1.alloc (.cells #[.int .i64 z.cyl, .int .i64 z.heads, .int .i64 z.per, .int .i64 z.size, .slice Az z.secs.length cz] 32))).cell? ⟨w.heap.size, 1, none⟩ = some (.slice B' e.cr.length k) := (World.cell?_alloc_old _ _ _ (by show w.heap.size ≠ _; omega)).trans p1
      have q2 : ((w1.alloc (.cells #[.int .i64 z.cyl, .int .i64 z.heads, .int .i64 z.per, .int .i64 z.size, .slice Az z.secs.length cz] 32))).cell? ⟨w.heap.size, 2, none⟩ = some (.slice C e.p.length i) := (World.cell?_alloc_old _ _ _ (by show w.heap.size ≠ _; omega)).trans p2
      have q3 : ((w1.alloc (.cells #[.int .i64 z.cyl, .int .i64 z.heads, .int .i64 z.per, .int .i64 z.size, .slice Az z.secs.length cz] 32))).cell? ⟨w.heap.size, 3, none⟩ = some (.slice D e.q.length j) := (World.cell?_alloc_old _ _ _ (by show w.heap.size ≠ _; omega)).trans p3
      have r0 : ((w1.alloc (.cells #[.int .i64 z.cyl, .int .i64 z.heads, .int .i64 z.per, .int .i64 z.size, .slice Az z.secs.length cz] 32))).cell? ⟨w1.heap.size, 0, none⟩ = some (.int .i64 z.cyl) := by simp
      have r1 : ((w1.alloc (.cells #[.int .i64 z.cyl, .int .i64 z.heads, .int .i64 z.per, .int .i64 z.size, .slice Az z.secs.length cz] 32))).cell? ⟨w1.heap.size, 1, none⟩ = some (.int .i64 z.heads) := by simp
      have r3 : ((w1.alloc (.cells #[.int .i64 z.cyl, .int .i64 z.heads, .int .i64 z.per, .int .i64 z.size, .slice Az z.secs.length cz] 32))).cell? ⟨w1.heap.size, 3, none⟩ = some (.int .i64 z.size) := by simp
      have B2 : Below w.heap.size w (w1.alloc (.cells #[.int .i64 z.cyl, .int .i64 z.heads, .int .i64 z.per, .int .i64 z.size, .slice Az z.secs.length cz] 32)) := B1.alloc (by omega) _
      have z2 : w1.heap.size + 1 ≤ ((w1.alloc (.cells #[.int .i64 z.cyl, .int .i64 z.heads, .int .i64 z.per, .int .i64 z.size, .slice Az z.secs.length cz] 32))).heap.size := by simp
      go_upto_region 5 with fail
      generalize (w1.alloc (.cells #[.int .i64 z.cyl, .int .i64 z.heads, .int .i64 z.per, .int .i64 z.size, .slice Az z.secs.length cz] 32)) = W2 at *
      clear p0 p1 p2 p3 k0 k1 k2 k3 k4
      have HF2 : Hid (evOk e = ((e.cr.drop 0).all crcR && ([e.p, e.q].drop 0).all (parOk z))) := Lib.hid (by rw [HF.out]; simp)
      clear HF
      go_loop [33] (fun ix => ∃ m : Nat, m ≤ e.cr.length ∧ ix = .int .i64 m ∧ Hid (evOk e = ((e.cr.drop m).all crcR && ([e.p, e.q].drop 0).all (parOk z)))) (fun ix => e.cr.length - (intOf ix).toNat)
      case atStart => exact ⟨0, by omega, rfl, HF2⟩
      case round =>
        obtain ⟨m, hm, rfl, HK⟩ := hrel
        by_cases hlt : m < e.cr.length
        · obtain ⟨u, hu⟩ : ∃ u, e.cr[m]? = some u := ⟨e.cr[m], List.getElem?_eq_getElem hlt⟩
          obtain ⟨g, rfl⟩ := HCA.resolve_left (by intro h0; rw [h0] at hlt; simp at hlt)
          have pu := HCR.out W2 B2 g rfl m u hu
          have HU := Lib.hid hu
          clear hu
          cases hin : inB u (-1) 65535
          · have HN := al_no HU.out HK hin
            go_wp2_with (go_at_call 41; refine (within_i _ _ _ _).mono ?_; rintro r w3 ⟨rfl, rfl⟩)
            go_ret
            exact ⟨ret_bool HN.symm, B2⟩
          · have HN := al_yes HU.out HK hin
            go_wp2_with (go_at_call 41; refine (within_i _ _ _ _).mono ?_; rintro r w3 ⟨rfl, rfl⟩)
            go_round
            case rel => exact ⟨m + 1, by omega, by go_num, HN⟩
            case measure => simp [intOf]; omega
        · have HL := Lib.hid (al_end (by omega) HK)
          clear HK
          have s0 : ((W2.alloc (.cells #[.slice C e.p.length i, .slice D e.q.length j] 26))).cell? ⟨W2.heap.size, 0, none⟩ = some (.slice C e.p.length i) := by simp
          have s1 : ((W2.alloc (.cells #[.slice C e.p.length i, .slice D e.q.length j] 26))).cell? ⟨W2.heap.size, 1, none⟩ = some (.slice D e.q.length j) := by simp
          have B3 : Below w.heap.size w (W2.alloc (.cells #[.slice C e.p.length i, .slice D e.q.length j] 26)) := B2.alloc (by omega) _
          have u0 : ((W2.alloc (.cells #[.slice C e.p.length i, .slice D e.q.length j] 26))).cell? ⟨w1.heap.size, 0, none⟩ = some (.int .i64 z.cyl) := (World.cell?_alloc_old _ _ _ (by show w1.heap.size ≠ _; omega)).trans r0
          have u1 : ((W2.alloc (.cells #[.slice C e.p.length i, .slice D e.q.length j] 26))).cell? ⟨w1.heap.size, 1, none⟩ = some (.int .i64 z.heads) := (World.cell?_alloc_old _ _ _ (by show w1.heap.size ≠ _; omega)).trans r1
          have u3 : ((W2.alloc (.cells #[.slice C e.p.length i, .slice D e.q.length j] 26))).cell? ⟨w1.heap.size, 3, none⟩ = some (.int .i64 z.size) := (World.cell?_alloc_old _ _ _ (by show w1.heap.size ≠ _; omega)).trans r3
          have z3 : W2.heap.size + 1 ≤ ((W2.alloc (.cells #[.slice C e.p.length i, .slice D e.q.length j] 26))).heap.size := by simp
          have HLL : Hid (∀ (jj : Nat) (l : List ByteArray), [e.p, e.q][jj]? = some l → ∃ A c, ((W2.alloc (.cells #[.slice C e.p.length i, .slice D e.q.length j] 26))).cell? ⟨W2.heap.size, jj, none⟩ = some (.slice A l.length c) ∧ StrAt w A l ∧ l.length ≤ 1048576 ∧ ∀ s ∈ l, s.size ≤ maxLen) := Lib.hid (fun jj l hl => by
            match jj, hl with
            | 0, hl => obtain rfl : e.p = l := by simpa using hl
                       exact ⟨C, i, s0, HP.out, HS.out.p, HS.out.ps⟩
            | 1, hl => obtain rfl : e.q = l := by simpa using hl
                       exact ⟨D, j, s1, HQ.out, HS.out.q, HS.out.qs⟩
            | (q + 2), hl => simp at hl)
          go_upto_region 11 with fail
          generalize (W2.alloc (.cells #[.slice C e.p.length i, .slice D e.q.length j] 26)) = W3 at *
          clear q1 q2 q3 r0 r1 r3 s0 s1 B2
          go_loopw [47] (fun ix wr => ∃ jj : Nat, jj ≤ 2 ∧ ix = .int .i64 jj ∧ Below W3.heap.size W3 wr ∧ Hid (evOk e = ([e.p, e.q].drop jj).all (parOk z))) (fun ix _ => 2 - (intOf ix).toNat)
          case atStart => exact ⟨0, by omega, rfl, Below.refl _ _, HL⟩
          case round =>
            obtain ⟨jj, hjj, rfl, hb, HK⟩ := hrel
            have zr := hb.size
            have BR : Below w.heap.size w wr := B3.trans (hb.mono (by omega))
            by_cases hlt2 : jj < 2
            · obtain ⟨l, hl⟩ : ∃ l, [e.p, e.q][jj]? = some l := ⟨_, List.getElem?_eq_getElem (by simpa using hlt2)⟩
              obtain ⟨AL, cl, pc, HST, hll, hms⟩ := HLL.out jj l hl
              have pl := (hb.cell (p := ⟨W2.heap.size, jj, none⟩) (by show W2.heap.size < _; omega)).trans pc
              have HK2 : Hid (evOk e = (parOk z l && ([e.p, e.q].drop (jj + 1)).all (parOk z))) := Lib.hid (by
                obtain ⟨hk2, e2⟩ := List.getElem?_eq_some_iff.1 hl
                rw [HK.out, List.drop_eq_getElem_cons hk2, List.all_cons, e2])
              clear hl pc HK
              have hjt : decide ((jj : Int) < 2) = true := by simp; omega
              obtain ⟨R, hR⟩ : ∃ R, R = ([e.p, e.q].drop (jj + 1)).all (parOk z) := ⟨_, rfl⟩
              rw [← hR] at HK2
              have HR := Lib.hid hR
              clear hR
              have v0 : ∀ x : Wb wr, x.1.cell? ⟨w1.heap.size, 0, none⟩ = some (.int .i64 z.cyl) := fun x => Wb.cell ((hb.cell (p := ⟨w1.heap.size, 0, none⟩) (by show w1.heap.size < _; omega)).trans u0) x
              have v1 : ∀ x : Wb wr, x.1.cell? ⟨w1.heap.size, 1, none⟩ = some (.int .i64 z.heads) := fun x => Wb.cell ((hb.cell (p := ⟨w1.heap.size, 1, none⟩) (by show w1.heap.size < _; omega)).trans u1) x
              have v3 := (hb.cell (p := ⟨w1.heap.size, 3, none⟩) (by show w1.heap.size < _; omega)).trans u3
              cases hln : ((l.length : Int) == z.cyl * z.heads)
              · have HN := Lib.hid (pr_no HK2.out hln)
                have hne : ((l.length : Int) != z.cyl * z.heads) = true := by unfold bne; rw [hln]; rfl
                go_wp2_with (fail)
                refine wp_region_wb (by kernel_rfl) (by kernel_rfl) ?_; (repeat (go_big_quiet_step (first | (go_at_call 42; exact Wb.same (size_str _ _ _ _ hll))))); refine wpQuiet_nil ?_; rintro w4 ⟨⟨w4', hb4⟩, rfl⟩
                go_wp2
                go_ret
                exact ⟨ret_bool HN.out.symm, BR.trans (hb4.mono (by omega))⟩
              · have HN := pr_yes HK2.out hln
                have hne : ((l.length : Int) != z.cyl * z.heads) = false := by unfold bne; rw [hln]; rfl
                have HLN := Lib.hid hln
                clear hln
                go_wp2_with (fail)
                refine wp_region_wb (by kernel_rfl) (by kernel_rfl) ?_; (repeat (go_big_quiet_step (first | (go_at_call 42; exact Wb.same (size_str _ _ _ _ hll))))); refine wpQuiet_nil ?_; rintro w4 ⟨⟨w4', hb4⟩, rfl⟩
                have y3 := (hb4.cell (p := ⟨w1.heap.size, 3, none⟩) (by show w1.heap.size < _; omega)).trans v3
                have B4 : Below w.heap.size w w4 := BR.trans (hb4.mono (by omega))
                have hb34 : Below W3.heap.size W3 w4 := hb.trans (hb4.mono (by omega))
                clear v0 v1 v3 hne
                go_wp2
                go_loop [61] (fun ix => ∃ m : Nat, m ≤ l.length ∧ ix = .int .i64 m ∧ Hid (evOk e = ((l.drop m).all (parB (szN z.size)) && R))) (fun ix => l.length - (intOf ix).toNat)
                case atStart => exact ⟨0, by omega, rfl, HN⟩
                case round =>
                  obtain ⟨m, hm, rfl, HM⟩ := hrel
                  by_cases hlm : m < l.length
                  · obtain ⟨s, hs⟩ : ∃ s, l[m]? = some s := ⟨l[m], List.getElem?_eq_getElem hlm⟩
                    obtain ⟨g, rfl, hg, hc⟩ := HST.resolve_left (by intro h0; rw [h0] at hlm; simp at hlm)
                    have ps := (B4.cell (p := ⟨g, m, none⟩) hg).trans (hc m s hs)
                    have hsm := hms s (List.mem_of_getElem? hs)
                    unfold maxLen at hsm
                    have HSS := Lib.hid hs
                    have hz8 := szN_le g4
                    clear hs hc
                    by_cases he : s.size = 0
                    · have HX := al_yes HSS.out HM (par_empty he)
                      have h1 := emp_nil he
                      have h1' : s.toList.isEmpty = true := by rw [h1]; rfl
                      have HE := Lib.hid he
                      clear he
                      go_wp2_with (go_at_call 43; refine (bytes_i _ _ g4).mono ?_; rintro r w5 ⟨rfl, rfl⟩)
                      go_round
                      case rel => exact ⟨m + 1, by omega, by go_num, HX⟩
                      case measure => simp [intOf]; omega
                    · have h1 := emp_ne he
                      have h1' : s.toList.isEmpty = false := by simpa using h1
                      by_cases he2 : s.size = szN z.size
                      · have HX := al_yes HSS.out HM (par_same he2)
                        have h2 : ((s.size : Int) != (szN z.size : Nat)) = false := by rw [bne_eq_false_iff_eq]; omega
                        have HE := Lib.hid (And.intro he he2)
                        clear he he2
                        go_wp2_with (go_at_call 43; refine (bytes_i _ _ g4).mono ?_; rintro r w5 ⟨rfl, rfl⟩)
                        go_round
                        case rel => exact ⟨m + 1, by omega, by go_num, HX⟩
                        case measure => simp [intOf]; omega
                      · have HX := al_no HSS.out HM (par_bad he he2)
                        have h2 : ((s.size : Int) != (szN z.size : Nat)) = true := by rw [bne_iff_ne]; omega
                        go_wp2_with (go_at_call 43; refine (bytes_i _ _ g4).mono ?_; rintro r w5 ⟨rfl, rfl⟩)
                        go_ret
                        exact ⟨ret_bool HX.symm, B4⟩
                  · go_wp2
                    go_roundw
                    case rel => exact ⟨jj + 1, by omega, by go_num, hb34, Lib.hid ((al_end (by omega) HM).trans HR.out)⟩
                    case measure => simp [intOf]; omega
            · obtain rfl : jj = 2 := by omega
              have HT : evOk e = true := by rw [HK.out]; rfl
              go_wp2
              go_ret
              exact ⟨ret_bool HT.symm, BR⟩
end Go.Proofs.YtddihmpiaemadaaGreatDoor
namespace Go.Proofs.YtddihmpiaemadaaGreatDoor
set_option linter.unusedVariables false
set_option linter.unusedSimpArgs false
open Go.RowKit
set_option maxRecDepth 20000 in
set_option maxHeartbeats 4000000 in
theorem discq_s (d : Dsc) (gb o c : Nat) (A : Option Addr) (w : World) (p0 : w.cell? ⟨gb, o, none⟩ = some (.int .i64 d.cyl)) (p1 : w.cell? ⟨gb, o + 1, none⟩ = some (.int .i64 d.heads)) (p2 : w.cell? ⟨gb, o + 2, none⟩ = some (.int .i64 d.per)) (p3 : w.cell? ⟨gb, o + 3, none⟩ = some (.int .i64 d.size)) (p4 : w.cell? ⟨gb, o + 4, none⟩ = some (.slice A d.secs.length c))
    (hA : d.secs = [] ∨ ∃ g, A = some ⟨g, 0, none⟩ ∧ g < w.heap.size ∧ ∀ (k : Nat) (s : Sec), d.secs[k]? = some s → w.cell? ⟨g, k * 2, none⟩ = some (.string s.data) ∧ w.cell? ⟨g, k * 2 + 1, none⟩ = some (.int .i64 s.state))
    (hn : d.secs.length ≤ 1048576) (hm : ∀ s ∈ d.secs, s.data.size ≤ maxLen) :
    Calls Tryz.prog 23 #[.pointer (some ⟨gb, o, none⟩)] w fun e w' => e = .returned (.bool (discOk d)) ∧ Below w.heap.size w w' := by
  have hgb := World.block_lt_of_cell? w _ p0
  have e0 : ∀ x : Wb w, x.1.cell? ⟨gb, o, none⟩ = some (.int .i64 d.cyl) := fun x => Wb.cell p0 x
  have e1 : ∀ x : Wb w, x.1.cell? ⟨gb, o + 1, none⟩ = some (.int .i64 d.heads) := fun x => Wb.cell p1 x
  have e2 : ∀ x : Wb w, x.1.cell? ⟨gb, o + 2, none⟩ = some (.int .i64 d.per) := fun x => Wb.cell p2 x
  have e3 : ∀ x : Wb w, x.1.cell? ⟨gb, o + 3, none⟩ = some (.int .i64 d.size) := fun x => Wb.cell p3 x
  have e4 : ∀ x : Wb w, x.1.cell? ⟨gb, o + 4, none⟩ = some (.slice A d.secs.length c) := fun x => Wb.cell p4 x
  cases h1 : geoB d.cyl d.heads d.per d.size
  · have HF := Lib.hid (dk_no1 h1)
    go_enter Tryz.func23, Tryz.ntmps23
    go_wp2_with (fail)
    refine wp_region_wb (by kernel_rfl) (by kernel_rfl) ?_; (repeat (go_big_quiet_step (first | (go_at_call 55; exact Wb.same (geo_s _ _ _ _ _))))); refine wpQuiet_nil ?_; rintro w1 ⟨⟨w1', hb1⟩, rfl⟩
    go_wp2
    go_ret
    exact ⟨ret_bool HF.out.symm, hb1⟩
  · obtain ⟨g1, g2, g3, g4⟩ := geo_parts h1
    obtain ⟨m1, m2⟩ := prod_bd g1 g2 g3
    cases h2 : ((d.secs.length : Int) == d.cyl * d.heads * d.per)
    · have HF := Lib.hid (dk_no2 h2)
      have h2' : ((d.secs.length : Int) != d.cyl * d.heads * d.per) = true := by unfold bne; rw [h2]; rfl
      go_enter Tryz.func23, Tryz.ntmps23
      go_wp2_with (fail)
      refine wp_region_wb (by kernel_rfl) (by kernel_rfl) ?_; (repeat (go_big_quiet_step (first | (go_at_call 55; exact Wb.same (geo_s _ _ _ _ _))))); refine wpQuiet_nil ?_; rintro w1 ⟨⟨w1', hb1⟩, rfl⟩
      go_wp2
      go_ret
      exact ⟨ret_bool HF.out.symm, hb1⟩
    · have HF := Lib.hid (dk_yes h1 h2)
      have h2' : ((d.secs.length : Int) != d.cyl * d.heads * d.per) = false := by unfold bne; rw [h2]; rfl
      go_enter Tryz.func23, Tryz.ntmps23
      go_wp2_with (fail)
      refine wp_region_wb (by kernel_rfl) (by kernel_rfl) ?_; (repeat (go_big_quiet_step (first | (go_at_call 55; exact Wb.same (geo_s _ _ _ _ _))))); refine wpQuiet_nil ?_; rintro w1 ⟨⟨w1', hb1⟩, rfl⟩
      have z1 := hb1.size
      clear e0 e1 e2 e3 e4 h2 h2' h1
      go_wp2
      go_loopw [3] (fun i wr => ∃ k : Nat, k ≤ d.secs.length ∧ i = .int .i64 k ∧ Below w.heap.size w wr ∧ Hid (discOk d = (d.secs.drop k).all fun s => secOk s (szN d.size))) (fun i _ => d.secs.length - (intOf i).toNat)
      case atStart => exact ⟨0, by omega, rfl, hb1, HF⟩
      case round =>
        obtain ⟨k, hk, rfl, hb, HK⟩ := hrel
        have zr := hb.size
        have r4 := (hb.cell (p := ⟨gb, o + 4, none⟩) hgb).trans p4
        by_cases hlt : k < d.secs.length
        · obtain ⟨s, hs⟩ : ∃ s, d.secs[k]? = some s := ⟨d.secs[k], List.getElem?_eq_getElem hlt⟩
          obtain ⟨g, rfl, hg, hc⟩ := hA.resolve_left (by intro h0; rw [h0] at hlt; simp at hlt)
          obtain ⟨c0, c1⟩ := hc k s hs
          have f3 : ∀ x : Wb wr, x.1.cell? ⟨gb, o + 3, none⟩ = some (.int .i64 d.size) := fun x => Wb.cell ((hb.cell (p := ⟨gb, o + 3, none⟩) hgb).trans p3) x
          have f4 : ∀ x : Wb wr, x.1.cell? ⟨gb, o + 4, none⟩ = some (.slice (some ⟨g, 0, none⟩) d.secs.length c) := fun x => Wb.cell r4 x
          have q0 : ∀ x : Wb wr, x.1.cell? ⟨g, k * 2, none⟩ = some (.string s.data) := fun x => Wb.cell ((hb.cell (p := ⟨g, _, none⟩) hg).trans c0) x
          have q1 : ∀ x : Wb wr, x.1.cell? ⟨g, k * 2 + 1, none⟩ = some (.int .i64 s.state) := fun x => Wb.cell ((hb.cell (p := ⟨g, _, none⟩) hg).trans c1) x
          have hz := szN_le g4
          have hms := hm s (List.mem_of_getElem? hs)
          have hsec := fun W => sec_s s (szN d.size) W (by omega) hms
          have HS := Lib.hid hs
          clear c0 c1 hs hc hA
          cases h5 : secOk s (szN d.size)
          · have HN := da_no HS.out HK h5
            rw [h5] at hsec
            go_wp2_with (fail)
            refine wp_region_wb (by kernel_rfl) (by kernel_rfl) ?_; (repeat (go_big_quiet_step (first | (go_at_call 57; exact Wb.same (bytes_s d.size _ g4)) | (go_at_call 56; exact Wb.calls (hsec _))))); refine wpQuiet_nil ?_; rintro w2 ⟨⟨w2', hb2⟩, rfl⟩
            go_wp2
            go_ret
            exact ⟨ret_bool HN.symm, hb.trans (hb2.mono zr)⟩
          · have HN := da_yes HS.out HK h5
            rw [h5] at hsec
            go_wp2_with (fail)
            refine wp_region_wb (by kernel_rfl) (by kernel_rfl) ?_; (repeat (go_big_quiet_step (first | (go_at_call 57; exact Wb.same (bytes_s d.size _ g4)) | (go_at_call 56; exact Wb.calls (hsec _))))); refine wpQuiet_nil ?_; rintro w2 ⟨⟨w2', hb2⟩, rfl⟩
            go_wp2
            go_roundw
            case rel => exact ⟨k + 1, by omega, by go_num, hb.trans (hb2.mono zr), HN⟩
            case measure => simp [intOf]; omega
        · go_wp2
          go_ret
          exact ⟨ret_bool (da_end (by omega) HK).symm, hb⟩
set_option maxRecDepth 20000 in
set_option maxHeartbeats 4000000 in
theorem alike_s (a b : Dsc) (ga oa gb ob : Nat) (w : World)
    (f0 : ∀ x : Wb w, x.1.cell? ⟨ga, oa, none⟩ = some (.int .i64 a.cyl)) (f1 : ∀ x : Wb w, x.1.cell? ⟨ga, oa + 1, none⟩ = some (.int .i64 a.heads)) (f2 : ∀ x : Wb w, x.1.cell? ⟨ga, oa + 2, none⟩ = some (.int .i64 a.per)) (f3 : ∀ x : Wb w, x.1.cell? ⟨ga, oa + 3, none⟩ = some (.int .i64 a.size))
    (y0 : ∀ x : Wb w, x.1.cell? ⟨gb, ob, none⟩ = some (.int .i64 b.cyl)) (y1 : ∀ x : Wb w, x.1.cell? ⟨gb, ob + 1, none⟩ = some (.int .i64 b.heads)) (y2 : ∀ x : Wb w, x.1.cell? ⟨gb, ob + 2, none⟩ = some (.int .i64 b.per)) (y3 : ∀ x : Wb w, x.1.cell? ⟨gb, ob + 3, none⟩ = some (.int .i64 b.size)) :
    Calls Tryz.prog 51 #[.pointer (some ⟨ga, oa, none⟩), .pointer (some ⟨gb, ob, none⟩)] w fun e w' => e = .returned (.bool (sameG a b)) ∧ Below w.heap.size w w' := by
  cases h1 : (a.cyl == b.cyl)
  · have HF : Hid (sameG a b = false) := Lib.hid (by unfold sameG; rw [h1]; rfl)
    go_enter Tryz.func51, Tryz.ntmps51
    go_wp2_with (fail)
    refine wp_region_wb (by kernel_rfl) (by kernel_rfl) ?_; (repeat (go_big_quiet_step (fail))); refine wpQuiet_nil ?_; rintro w1 ⟨⟨w1', hb1⟩, rfl⟩
    go_wp2
    go_ret
    exact ⟨ret_bool HF.out.symm, hb1⟩
  · cases h2 : (a.heads == b.heads)
    · have HF : Hid (sameG a b = false) := Lib.hid (by unfold sameG; rw [h1, h2]; rfl)
      go_enter Tryz.func51, Tryz.ntmps51
      go_wp2_with (fail)
      refine wp_region_wb (by kernel_rfl) (by kernel_rfl) ?_; (repeat (go_big_quiet_step (fail))); refine wpQuiet_nil ?_; rintro w1 ⟨⟨w1', hb1⟩, rfl⟩
      go_wp2
      go_ret
      exact ⟨ret_bool HF.out.symm, hb1⟩
    · cases h3 : (a.per == b.per)
      · have HF : Hid (sameG a b = false) := Lib.hid (by unfold sameG; rw [h1, h2, h3]; rfl)
        go_enter Tryz.func51, Tryz.ntmps51
        go_wp2_with (fail)
        refine wp_region_wb (by kernel_rfl) (by kernel_rfl) ?_; (repeat (go_big_quiet_step (fail))); refine wpQuiet_nil ?_; rintro w1 ⟨⟨w1', hb1⟩, rfl⟩
        go_wp2
        go_ret
        exact ⟨ret_bool HF.out.symm, hb1⟩
      · have HF : Hid (sameG a b = (a.size == b.size)) := Lib.hid (by unfold sameG; rw [h1, h2, h3]; rfl)
        go_enter Tryz.func51, Tryz.ntmps51
        go_wp2_with (fail)
        refine wp_region_wb (by kernel_rfl) (by kernel_rfl) ?_; (repeat (go_big_quiet_step (fail))); refine wpQuiet_nil ?_; rintro w1 ⟨⟨w1', hb1⟩, rfl⟩
        go_wp2
        go_ret
        exact ⟨ret_bool HF.out.symm, hb1⟩
end Go.Proofs.YtddihmpiaemadaaGreatDoor
