/- spec.FillFrom: the walk. -/
import Derived.Test.YtignjjkldmninaaFillI
import Derived.Test.YtignjjkldmninaaVDumpsS
import Derived.Deep.RegionHeld3
namespace Go.Proofs.Ytignjjkldmninaa
set_option linter.unusedVariables false
open Go.RowKit
def Dsc.bare (d : Dsc) : Dsc := ⟨d.cyl, d.heads, d.per, d.size, []⟩
set_option maxRecDepth 20000 in
set_option maxHeartbeats 4000000 in
theorem like_s (g : Nat) (d : Dsc) (v : Value) (w : World) (h : Row w g (dscL d v)) (hg : g < w.heap.size) :
    Calls Try.prog 82 #[.pointer (some ⟨g, 0, none⟩)] w fun e w' => e = .returned (dscV d.bare (.slice none 0 0)) ∧ Below w.heap.size w w' := by
  have HX : Below w.heap.size w (w.alloc (.cells #[.int .i64 0, .int .i64 0, .int .i64 0, .int .i64 0, .slice none 0 0] 39)) := Below.alloc (Below.refl _ _) (Nat.le_refl _) _
  have R1 := h.below HX hg
  have Z1 : Row (w.alloc (.cells #[.int .i64 0, .int .i64 0, .int .i64 0, .int .i64 0, .slice none 0 0] 39)) w.heap.size (dscL ⟨0, 0, 0, 0, []⟩ (.slice none 0 0)) := Row.alloc w _ _
  have r0 := R1 0 _ rfl
  have r1 := R1 1 _ rfl
  have r2 := R1 2 _ rfl
  have r3 := R1 3 _ rfl
  have z0 := Z1 0 _ rfl
  have z1 := Z1 1 _ rfl
  have z2 := Z1 2 _ rfl
  have z3 := Z1 3 _ rfl
  have z4 := Z1 4 _ rfl
  go_enter Try.func82, Try.ntmps82
  go_wp2_with (fail)
  have q0 := h 0 _ rfl
  have q1 := h 1 _ rfl
  have q2 := h 2 _ rfl
  have q3 := h 3 _ rfl
  have hne : g ≠ w.heap.size := by omega
  have hne2 : w.heap.size ≠ g := by omega
  go_region_held3 (fun w' => w'.cell? ⟨g, 0, none⟩ = some (.int .i64 d.cyl) ∧ w'.cell? ⟨g, 1, none⟩ = some (.int .i64 d.heads) ∧ w'.cell? ⟨g, 2, none⟩ = some (.int .i64 d.per) ∧ w'.cell? ⟨g, 3, none⟩ = some (.int .i64 d.size)) (first | go_keep | (simp [go_sem, *]; done)) (fail)
  go_wp2
  refine bodyPost_ret (v := dscV d.bare (.slice none 0 0)) (by simp [results, Try.results82, go_sem, Dsc.bare]; try done) rfl ⟨rfl, (by repeat (first | exact Below.refl _ _ | refine Below.alloc ?_ (by first | omega | (simp; done) | (simp; omega)) _ | apply Below.drew | apply below_drewN | refine Below.setCell ?_ (by first | omega | (simp; done) | (simp; omega)) _ | refine Below.trans ?_ (Below.mono (by assumption) (by first | omega | (simp; done) | (simp; omega)))))⟩
set_option maxRecDepth 20000 in
set_option maxHeartbeats 4000000 in
theorem fill_s (Ba Bb : Nat) (a b : Dsc) (va vb : Value) (w : World) (ha : SecOwn Ba w va a.secs) (hb : SecOwn Bb w vb b.secs) (hn : a.secs.length ≤ 1048576) (hm : b.secs.length ≤ 1048576) (ma : ∀ s ∈ a.secs, s.data.size ≤ maxLen) (mb : ∀ s ∈ b.secs, s.data.size ≤ maxLen) :
    Calls Try.prog 35 #[dscV a va, dscV b vb] w fun e w' => FillR w a b e w' := by
  have HA := Lib.hid ha
  have HBo := Lib.hid hb
  obtain ⟨A, c, rfl, _⟩ := OwnL.shape ha
  obtain ⟨A', c', rfl, _⟩ := OwnL.shape hb
  have HF := Lib.hid (fillB w a b A A' c c')
  have HV := Lib.hid (dumpsL_s 0 [a, b] _ ((((w.alloc (.cells #[.int .i64 a.cyl, .int .i64 a.heads, .int .i64 a.per, .int .i64 a.size, .slice A a.secs.length c] 39)).alloc (.cells #[.int .i64 b.cyl, .int .i64 b.heads, .int .i64 b.per, .int .i64 b.size, .slice A' b.secs.length c'] 39)).alloc (.cells #[.int .i64 0, .int .i64 0, .int .i64 0, .int .i64 0, .slice none 0 0] 39)).alloc (.cells #[.int .i64 a.cyl, .int .i64 a.heads, .int .i64 a.per, .int .i64 a.size, .slice A a.secs.length c, .int .i64 b.cyl, .int .i64 b.heads, .int .i64 b.per, .int .i64 b.size, .slice A' b.secs.length c'] 39)) (two_own HF.out.rab (by rw [HF.out.size]; omega) (OwnL.below HA.out HF.out.bel) (OwnL.below HBo.out HF.out.bel)) (by simp) (by simp; exact ⟨hn, hm⟩) (by simp; exact ⟨ma, mb⟩))
  clear ha hb
  unfold FillR fillD fillK fillE
  cases hv : dumpsOk [a, b]
  · rw [hv] at HV
    go_enter Try.func35, Try.ntmps35
    go_wp2_with (fail)
    refine HV.out.mono ?_; rintro e w1 ⟨rfl, hb1⟩
    have B1 : Below w.heap.size w w1 := HF.out.bel.trans (hb1.mono (by rw [HF.out.size]; omega))
    have z1 : w.heap.size + 4 ≤ w1.heap.size := Nat.le_trans (by rw [HF.out.size]; exact Nat.le_refl _) hb1.size
    have Z1 := HF.out.rz.below hb1 (by rw [HF.out.size]; omega)
    have f1 := frozen_below HF.out.fz hb1 (by rw [HF.out.size]; omega)
    clear HF HV hb1
    have r0 := Z1 0 _ rfl
    have r1 := Z1 1 _ rfl
    have r2 := Z1 2 _ rfl
    have r3 := Z1 3 _ rfl
    have r4 := Z1 4 _ rfl
    go_wp2
    let us := [Value.int .i64 0, .int .i64 0, .int .i64 0, .int .i64 0, .slice none 0 0]
    have Z2 := Z1.setL us (by simp [us])
    have B2 : Below w.heap.size w (setL w1 (w.heap.size + 1 + 1) 0 us) := setL_below (by omega) us B1
    show bodyPost _ _ _ _ _ (setL w1 (w.heap.size + 1 + 1) 0 us)
    clear Z1 r0 r1 r2 r3 r4 f1
    generalize (setL w1 (w.heap.size + 1 + 1) 0 us) = W at *
    have s0 := Z2 0 _ rfl
    have s1 := Z2 1 _ rfl
    have s2 := Z2 2 _ rfl
    have s3 := Z2 3 _ rfl
    have s4 := Z2 4 _ rfl
    refine bodyPost_ret (v := .tuple #[dscV ⟨0, 0, 0, 0, []⟩ (.slice none 0 0), .int .i64 0, .int .i64 1]) (by simp [results, Try.results35, go_sem, s0, s1, s2, s3, s4]; try done) rfl ⟨none, 0, rfl, OwnL.of_nil, B2⟩
  · rw [hv] at HV
    have HL := Lib.hid (dumps2 hv).2.2.2
    clear hv
    obtain ⟨i0, hi, hz0, hz1, hz2⟩ := info_parts Sec.info
    have HN := Lib.hid (fillN_le a.secs b.secs)
    go_enter Try.func35, Try.ntmps35
    go_wp2_with (fail)
    refine HV.out.mono ?_; rintro e w1 ⟨rfl, hb1⟩
    have B1 : Below w.heap.size w w1 := HF.out.bel.trans (hb1.mono (by rw [HF.out.size]; omega))
    have z1 : w.heap.size + 4 ≤ w1.heap.size := Nat.le_trans (by rw [HF.out.size]; exact Nat.le_refl _) hb1.size
    have Z1 := HF.out.rz.below hb1 (by rw [HF.out.size]; omega)
    have Ra1 := HF.out.ra.below hb1 (by rw [HF.out.size]; omega)
    have Rb1 := HF.out.rb.below hb1 (by rw [HF.out.size]; omega)
    have f1 := frozen_below HF.out.fz hb1 (by rw [HF.out.size]; omega)
    clear HF HV hb1
    go_wp2_with (fail)
    refine (like_s w.heap.size a _ w1 Ra1 (by omega)).mono ?_; rintro e w2 ⟨rfl, hb2⟩
    have B2 := B1.trans (hb2.mono B1.size)
    have z2 : w1.heap.size ≤ w2.heap.size := hb2.size
    have Z2 := Z1.below hb2 (by omega)
    have Ra2 := Ra1.below hb2 (by omega)
    have Rb2 := Rb1.below hb2 (by omega)
    have f2 := frozen_below f1 hb2 (by omega)
    have HX : Below w2.heap.size w2 (w2.alloc (.cells #[.int .i64 a.cyl, .int .i64 a.heads, .int .i64 a.per, .int .i64 a.size, .slice none 0 0] 39)) := Below.alloc (Below.refl _ _) (Nat.le_refl _) _
    have X3 : Row (w2.alloc (.cells #[.int .i64 a.cyl, .int .i64 a.heads, .int .i64 a.per, .int .i64 a.size, .slice none 0 0] 39)) w2.heap.size (dscL a (.slice none 0 0)) := Row.alloc w2 _ _
    have fx3 : ∀ o, ((w2.alloc (.cells #[.int .i64 a.cyl, .int .i64 a.heads, .int .i64 a.per, .int .i64 a.size, .slice none 0 0] 39))).frozen? ⟨w2.heap.size, o, none⟩ = false := alloc_frozen
    have B3 := B2.trans (HX.mono B2.size)
    have Z3 := Z2.below HX (by omega)
    have Ra3 := Ra2.below HX (by omega)
    have Rb3 := Rb2.below HX (by omega)
    have f3 := frozen_below f2 HX (by omega)
    have z3 : w2.heap.size + 1 ≤ ((w2.alloc (.cells #[.int .i64 a.cyl, .int .i64 a.heads, .int .i64 a.per, .int .i64 a.size, .slice none 0 0] 39))).heap.size := by simp
    clear Z2 Rb2 Ra2 f2 Z1 Ra1 Rb1 f1 hb2 HX B2
    go_wp2
    show Code.wp _ _ _ _ (w2.alloc (.cells #[.int .i64 a.cyl, .int .i64 a.heads, .int .i64 a.per, .int .i64 a.size, .slice none 0 0] 39))
    generalize (w2.alloc (.cells #[.int .i64 a.cyl, .int .i64 a.heads, .int .i64 a.per, .int .i64 a.size, .slice none 0 0] 39)) = W3 at *
    go_loopw [9, 8] (fun i n wr => ∃ (k : Nat) (P : List Sec) (N : Int) (v : Value), k ≤ a.secs.length ∧ P.length = k ∧ i = .int .i64 k ∧ n = .int .i64 N ∧ (0 ≤ N ∧ N ≤ k) ∧ Below w.heap.size w wr ∧ Row wr w2.heap.size (dscL a v) ∧ (∀ o, wr.frozen? ⟨w2.heap.size, o, none⟩ = false) ∧ Row wr w.heap.size (dscL a (.slice A a.secs.length c)) ∧ Row wr (w.heap.size + 1) (dscL b (.slice A' b.secs.length c')) ∧ Row wr (w.heap.size + 1 + 1) (dscL ⟨0, 0, 0, 0, []⟩ (.slice none 0 0)) ∧ (∀ o, wr.frozen? ⟨w.heap.size + 1 + 1, o, none⟩ = false) ∧ w2.heap.size + 1 ≤ wr.heap.size ∧ SecOwn (w2.heap.size + 1) wr v P ∧ Hid (fillL a.secs b.secs = P ++ fillL (a.secs.drop k) (b.secs.drop k)) ∧ Hid (fillN a.secs b.secs = N + fillN (a.secs.drop k) (b.secs.drop k))) (fun i _ _ => a.secs.length - (intOf i).toNat)
    case atStart => exact ⟨0, [], 0, _, by omega, rfl, rfl, rfl, ⟨by omega, by simp⟩, B3, X3, fx3, Ra3, Rb3, Z3, f3, z3, OwnL.of_nil, Lib.hid rfl, Lib.hid (by simp)⟩
    case round =>
      obtain ⟨k, P, N, v, hk, hP, rfl, rfl, hNk, hbw, hX, hfx, hRa, hRb, hZ, hfz, hzr, ho, HL1, HN1⟩ := hrel
      have ra4 := hRa 4 _ rfl
      by_cases hltk : k < a.secs.length
      · have hL := HL.out
        obtain ⟨x, hx⟩ : ∃ x, a.secs[k]? = some x := ⟨a.secs[k], List.getElem?_eq_getElem hltk⟩
        obtain ⟨y, hy⟩ : ∃ y, b.secs[k]? = some y := ⟨b.secs[k]'(by omega), List.getElem?_eq_getElem (by omega)⟩
        have HLk := Lib.hid (fillL_drop hx hy)
        have HNk := Lib.hid (fillN_drop hx hy)
        have oA := OwnL.below HA.out hbw
        obtain ⟨ga, rfl, hga⟩ : ∃ ga, A = some ⟨ga, 0, none⟩ ∧ ga < wr.heap.size := by
          obtain ⟨A0, c0, h0, h1⟩ := OwnL.shape oA
          injection h0 with h0 h2 h3
          obtain ⟨g0, h4, _, h5⟩ := h1.resolve_left (by intro he; rw [he] at hltk; simp at hltk)
          exact ⟨g0, h0.trans h4, h5⟩
        have oB := OwnL.below HBo.out hbw
        have hltb : k < b.secs.length := by omega
        obtain ⟨gb, rfl, hgb⟩ : ∃ gb, A' = some ⟨gb, 0, none⟩ ∧ gb < wr.heap.size := by
          obtain ⟨A0, c0, h0, h1⟩ := OwnL.shape oB
          injection h0 with h0 h2 h3
          obtain ⟨g0, h4, _, h5⟩ := h1.resolve_left (by intro he; rw [he] at hltb; simp at hltb)
          exact ⟨g0, h0.trans h4, h5⟩
        have x0 : wr.cell? ⟨ga, k * 2, none⟩ = some (.string x.data) := OwnL.cell Sec.len oA hx (j := 0) rfl
        have x1 : wr.cell? ⟨ga, k * 2 + 1, none⟩ = some (.int .i64 x.state) := OwnL.cell Sec.len oA hx (j := 1) rfl
        have y0 : wr.cell? ⟨gb, k * 2, none⟩ = some (.string y.data) := OwnL.cell Sec.len oB hy (j := 0) rfl
        have y1 : wr.cell? ⟨gb, k * 2 + 1, none⟩ = some (.int .i64 y.state) := OwnL.cell Sec.len oB hy (j := 1) rfl
        have X4 := hX 4 _ rfl
        have rb4 := hRb 4 _ rfl
        have HO := Lib.hid ho
        have HR := Lib.hid (And.intro hX (And.intro hZ (And.intro hfz (And.intro hRa hRb))))
        obtain ⟨hN0, hNk⟩ := hNk
        have hfx4 := hfx 4
        clear ho hX hZ hfz hRa hRb hx hy oB oA
        have hzr2 : w2.heap.size < wr.heap.size := hzr
        have hw1 : w.heap.size < wr.heap.size := by omega
        have hw2 : w.heap.size + 1 < wr.heap.size := by omega
        cases q1 : (x.state != 1)
        · have qs : fill1 x y = x ∧ fillC x y = 0 := by unfold fill1 fillC; simp at q1; simp [q1]
          clear hL
          go_wp2_with (at_builtin; refine wpList_app1 Sec.cells 2 Sec.len _ rfl _ _ _ rfl (w2.heap.size + 1) 48 i0 (.agg #[.string .empty, .int .i64 0]) 24 Try.underlying37 hi hz0 hz1 hz2 rfl (by decide) _ P rfl ((HO.out.alloc _).alloc _) _ 1 x rfl ?_ (sec_one x) (by omega) (by omega) (by simp; omega) ?_; (· intro j u hu; match j, hu with | 0, hu => (simp [Sec.cells] at hu; subst hu; simp) | 1, hu => (simp [Sec.cells] at hu; subst hu; simp) | j + 2, hu => simp [Sec.cells] at hu); intro v' w5 how2 hg2; have BK := own_grown_below ((HO.out.alloc _).alloc _) (Below.alloc (Below.alloc (Below.refl (w2.heap.size + 1) wr) hzr _) (by simp; omega) _) hg2 (Nat.le_refl _) (by simp; omega); clear hg2; obtain ⟨A5, c5, rfl, _⟩ := OwnL.shape how2; rw [show (P ++ [x]).length = k + 1 from by simp; omega] at how2; have X5 := HR.out.1.belowK BK (by omega); have fx5 := frozen_belowK hfx BK (by omega); have x54 := X5 4 _ rfl; clear fx3 X3)
          go_roundw
          case rel =>
            obtain ⟨hX, hZ, hfz, hRa, hRb⟩ := HR.out; refine ⟨k + 1, P ++ [x], N, .slice A5 (k + 1) c5, by omega, by simp; omega, by go_num, rfl, ⟨by omega, by omega⟩, Below.setCell (hbw.trans (BK.mono (by omega))) (show w.heap.size ≤ w2.heap.size by omega) _, X5.set (o := 4) _ (by simp), fun o => (setCell_frozen _ _ _ _).trans (fx5 o), (hRa.belowK BK (by omega)).set_other _ (by omega), (hRb.belowK BK (by omega)).set_other _ (by omega), (hZ.belowK BK (by omega)).set_other _ (by omega), fun o => (setCell_frozen _ _ _ _).trans (frozen_belowK hfz BK (by omega) o), ?_, far_set how2 (by omega), ?_, ?_⟩; (· rw [show ∀ (W : World) (u : Value), (W.setCell ⟨w2.heap.size, 4, none⟩ u).heap.size = W.heap.size from fun W u => setL_size [u] W _ _]; exact Nat.le_trans hzr BK.size)
            · exact Lib.hid (by rw [HL1.out, HLk.out, qs.1]; simp)
            · exact Lib.hid (by rw [HN1.out, HNk.out, qs.2]; omega)
          case measure => simp [intOf]; omega
        · cases q2 : (y.state == 1)
          · have qs : fill1 x y = x ∧ fillC x y = 0 := by unfold fill1 fillC; simp at q2; simp [q2]
            clear hL
            go_wp2_with (at_builtin; refine wpList_app1 Sec.cells 2 Sec.len _ rfl _ _ _ rfl (w2.heap.size + 1) 48 i0 (.agg #[.string .empty, .int .i64 0]) 24 Try.underlying37 hi hz0 hz1 hz2 rfl (by decide) _ P rfl ((HO.out.alloc _).alloc _) _ 1 x rfl ?_ (sec_one x) (by omega) (by omega) (by simp; omega) ?_; (· intro j u hu; match j, hu with | 0, hu => (simp [Sec.cells] at hu; subst hu; simp) | 1, hu => (simp [Sec.cells] at hu; subst hu; simp) | j + 2, hu => simp [Sec.cells] at hu); intro v' w5 how2 hg2; have BK := own_grown_below ((HO.out.alloc _).alloc _) (Below.alloc (Below.alloc (Below.refl (w2.heap.size + 1) wr) hzr _) (by simp; omega) _) hg2 (Nat.le_refl _) (by simp; omega); clear hg2; obtain ⟨A5, c5, rfl, _⟩ := OwnL.shape how2; rw [show (P ++ [x]).length = k + 1 from by simp; omega] at how2; have X5 := HR.out.1.belowK BK (by omega); have fx5 := frozen_belowK hfx BK (by omega); have x54 := X5 4 _ rfl; clear fx3 X3)
            go_roundw
            case rel =>
              obtain ⟨hX, hZ, hfz, hRa, hRb⟩ := HR.out; refine ⟨k + 1, P ++ [x], N, .slice A5 (k + 1) c5, by omega, by simp; omega, by go_num, rfl, ⟨by omega, by omega⟩, Below.setCell (hbw.trans (BK.mono (by omega))) (show w.heap.size ≤ w2.heap.size by omega) _, X5.set (o := 4) _ (by simp), fun o => (setCell_frozen _ _ _ _).trans (fx5 o), (hRa.belowK BK (by omega)).set_other _ (by omega), (hRb.belowK BK (by omega)).set_other _ (by omega), (hZ.belowK BK (by omega)).set_other _ (by omega), fun o => (setCell_frozen _ _ _ _).trans (frozen_belowK hfz BK (by omega) o), ?_, far_set how2 (by omega), ?_, ?_⟩; (· rw [show ∀ (W : World) (u : Value), (W.setCell ⟨w2.heap.size, 4, none⟩ u).heap.size = W.heap.size from fun W u => setL_size [u] W _ _]; exact Nat.le_trans hzr BK.size)
              · exact Lib.hid (by rw [HL1.out, HLk.out, qs.1]; simp)
              · exact Lib.hid (by rw [HN1.out, HNk.out, qs.2]; omega)
            case measure => simp [intOf]; omega
          · have qs : fill1 x y = y ∧ fillC x y = 1 := by unfold fill1 fillC; simp at q1 q2; simp [q1, q2]
            clear hL
            go_wp2_with (at_builtin; refine wpList_app1 Sec.cells 2 Sec.len _ rfl _ _ _ rfl (w2.heap.size + 1) 48 i0 (.agg #[.string .empty, .int .i64 0]) 24 Try.underlying37 hi hz0 hz1 hz2 rfl (by decide) _ P rfl ((HO.out.alloc _).alloc _) _ 1 y rfl ?_ (sec_one y) (by omega) (by omega) (by simp; omega) ?_; (· intro j u hu; match j, hu with | 0, hu => (simp [Sec.cells] at hu; subst hu; simp) | 1, hu => (simp [Sec.cells] at hu; subst hu; simp) | j + 2, hu => simp [Sec.cells] at hu); intro v' w5 how2 hg2; have BK := own_grown_below ((HO.out.alloc _).alloc _) (Below.alloc (Below.alloc (Below.refl (w2.heap.size + 1) wr) hzr _) (by simp; omega) _) hg2 (Nat.le_refl _) (by simp; omega); clear hg2; obtain ⟨A5, c5, rfl, _⟩ := OwnL.shape how2; rw [show (P ++ [y]).length = k + 1 from by simp; omega] at how2; have X5 := HR.out.1.belowK BK (by omega); have fx5 := frozen_belowK hfx BK (by omega); have x54 := X5 4 _ rfl; clear fx3 X3)
            go_roundw
            case rel =>
              obtain ⟨hX, hZ, hfz, hRa, hRb⟩ := HR.out; refine ⟨k + 1, P ++ [y], N + 1, .slice A5 (k + 1) c5, by omega, by simp; omega, by go_num, by go_num, ⟨by omega, by omega⟩, Below.setCell (hbw.trans (BK.mono (by omega))) (show w.heap.size ≤ w2.heap.size by omega) _, X5.set (o := 4) _ (by simp), fun o => (setCell_frozen _ _ _ _).trans (fx5 o), (hRa.belowK BK (by omega)).set_other _ (by omega), (hRb.belowK BK (by omega)).set_other _ (by omega), (hZ.belowK BK (by omega)).set_other _ (by omega), fun o => (setCell_frozen _ _ _ _).trans (frozen_belowK hfz BK (by omega) o), ?_, far_set how2 (by omega), ?_, ?_⟩; (· rw [show ∀ (W : World) (u : Value), (W.setCell ⟨w2.heap.size, 4, none⟩ u).heap.size = W.heap.size from fun W u => setL_size [u] W _ _]; exact Nat.le_trans hzr BK.size)
              · exact Lib.hid (by rw [HL1.out, HLk.out, qs.1]; simp)
              · exact Lib.hid (by rw [HN1.out, HNk.out, qs.2]; omega)
            case measure => simp [intOf]; omega
      · obtain rfl : k = a.secs.length := by omega
        have eL : fillL a.secs b.secs = P := by rw [HL1.out, List.drop_of_length_le (Nat.le_refl _), List.drop_of_length_le (by have := HL.out; omega)]; exact List.append_nil P
        have eN : fillN a.secs b.secs = N := by rw [HN1.out, List.drop_of_length_le (Nat.le_refl _), List.drop_of_length_le (by have := HL.out; omega)]; exact Int.add_zero N
        obtain ⟨A5, c5, rfl, _⟩ := OwnL.shape ho
        have x0 := hX 0 _ rfl
        have x1 := hX 1 _ rfl
        have x2 := hX 2 _ rfl
        have x3 := hX 3 _ rfl
        have x4 := hX 4 _ rfl
        have y0 := hZ 0 _ rfl
        have y1 := hZ 1 _ rfl
        have y2 := hZ 2 _ rfl
        have y3 := hZ 3 _ rfl
        have y4 := hZ 4 _ rfl
        have HE := Lib.hid (And.intro eL eN)
        have HO := Lib.hid ho
        have HZ := Lib.hid hZ
        clear HL1 HN1 hX hZ eL eN HL hP ho
        go_wp2
        let us := [Value.int .i64 a.cyl, .int .i64 a.heads, .int .i64 a.per, .int .i64 a.size, .slice A5 P.length c5]
        have Z2 := HZ.out.setL us (by simp [us])
        have B2 : Below w.heap.size w (setL wr (w.heap.size + 1 + 1) 0 us) := setL_below (by omega) us hbw
        have O2 := setL_far (g := w.heap.size + 1 + 1) (o := 0) (by omega) us HO.out
        show bodyPost _ _ _ _ _ (setL wr (w.heap.size + 1 + 1) 0 us)
        clear x0 x1 x2 x3 x4 y0 y1 y2 y3 y4 hfz hRa hRb hfx
        generalize (setL wr (w.heap.size + 1 + 1) 0 us) = W at *
        have s0 := Z2 0 _ rfl
        have s1 := Z2 1 _ rfl
        have s2 := Z2 2 _ rfl
        have s3 := Z2 3 _ rfl
        have s4 := Z2 4 _ rfl
        refine bodyPost_ret (v := .tuple #[dscV a (.slice A5 P.length c5), .int .i64 N, .int .i64 0]) (by simp [results, Try.results35, go_sem, s0, s1, s2, s3, s4]; try done) rfl ?_
        obtain ⟨eL, eN⟩ := HE.out
        refine ⟨A5, c5, ?_, ?_, B2⟩
        · simp [eL, eN]
        · show SecOwn _ _ (.slice A5 (fillL a.secs b.secs).length c5) (fillL a.secs b.secs)
          rw [eL]
          exact OwnL.base O2 (by omega)
end Go.Proofs.Ytignjjkldmninaa
