/- Readings of a sector and bytes that fit, impl and spec: the walks. FirstFill, impl: the walk. SolveBytes, impl: the walk. -/
import Derived.Test.YtfcdienphillnaaGreatCk30
import Derived.Test.YtfcdienphillnaaGreatCk32
import Derived.Test.YtfcdienphillnaaGreatCk11
import Derived.Test.YtfcdienphillnaaGreatCk23
import Derived.Test.YtfcdienphillnaaGreatCk24
namespace Go.Proofs.YtfcdienphillnaaGreat
set_option linter.unusedVariables false
set_option linter.unusedSimpArgs false
open Go.RowKit
theorem fit_at {cr : List Int} {k : Nat} {u : Int} (h : cr[k]? = some u) (s : ByteArray) : fitB cr k s = (u == -1 || (crcB s : Int) == u) := by
  unfold fitB; rw [List.getD_eq_getElem?_getD, h]; rfl
theorem rd_yes {k j : Nat} {l : List Dsc} {d : Dsc} {s : Sec} {X acc : List ByteArray} (hd : l[j]? = some d) (hs : d.secs[k]? = some s) (H : Hid (X = acc ++ rdF k (l.drop j))) (h : ¬ s.state = 3) : Hid (X = (acc ++ [s.data]) ++ rdF k (l.drop (j + 1))) := by
  obtain ⟨hj, rfl⟩ := List.getElem?_eq_some_iff.1 hd
  refine Lib.hid ?_
  rw [H.out, List.drop_eq_getElem_cons hj]
  unfold rdF
  rw [List.map_cons, List.getD_eq_getElem?_getD, hs]
  show acc ++ rdL (s :: _) = _
  rw [rdL, if_neg (by simpa using h), List.append_assoc]; rfl
theorem rd_no {k j : Nat} {l : List Dsc} {d : Dsc} {s : Sec} {X acc : List ByteArray} (hd : l[j]? = some d) (hs : d.secs[k]? = some s) (H : Hid (X = acc ++ rdF k (l.drop j))) (h : s.state = 3) : Hid (X = acc ++ rdF k (l.drop (j + 1))) := by
  obtain ⟨hj, rfl⟩ := List.getElem?_eq_some_iff.1 hd
  refine Lib.hid ?_
  rw [H.out, List.drop_eq_getElem_cons hj]
  unfold rdF
  rw [List.map_cons, List.getD_eq_getElem?_getD, hs]
  show acc ++ rdL (s :: _) = _
  rw [rdL, if_pos (by simpa using h)]
theorem rdg_end {k j : Nat} {l : List Dsc} {X acc : List ByteArray} (hj : l.length ≤ j) (H : Hid (X = acc ++ rdF k (l.drop j))) : X = acc := by
  rw [H.out, List.drop_of_length_le hj]; simp [rdF, rdL]
theorem crc_cell {B : Nat} {e : Evd} {va vb vc vd : Value} {w : World} (h : EvOwn B w e va vb vc vd) {k : Nat} (hk : k < e.cr.length) : ∃ g c u, vb = .slice (some ⟨g, 0, none⟩) e.cr.length c ∧ e.cr[k]? = some u ∧ w.cell? ⟨g, k, none⟩ = some (.int .i64 u) := by
  have o := h.cr
  obtain ⟨A, c, rfl, hA⟩ := OwnL.shape o
  obtain ⟨g, rfl, _⟩ := hA.resolve_left (by intro h0; rw [h0] at hk; simp at hk)
  obtain ⟨u, hu⟩ : ∃ u, e.cr[k]? = some u := ⟨e.cr[k], List.getElem?_eq_getElem hk⟩
  exact ⟨g, c, u, rfl, hu, Int64L.at_ o rfl hu⟩
set_option maxRecDepth 20000 in
set_option maxHeartbeats 4000000 in
theorem fits_i (B : Nat) (e : Evd) (va vb vc vd : Value) (k : Nat) (s : ByteArray) (w : World) (h : EvOwn B w e va vb vc vd) (hk : k < e.cr.length) (hcr : e.cr.length ≤ 1048576) (hs : s.size ≤ 4096) :
    Calls Tryz.prog 88 #[evV va vb vc vd, .int .i64 k, .string s] w fun r w' => r = .returned (.bool (fitB e.cr k s)) ∧ Below w.heap.size w w' := by
  obtain ⟨g, c, u, hvb, hu, hc⟩ := crc_cell h hk
  obtain ⟨A, n, B', kk, C, i, D, j, rfl, hvb', rfl, rfl⟩ := h.shape
  rw [hvb'] at hvb
  obtain rfl : B' = some ⟨g, 0, none⟩ := by injection hvb
  obtain rfl : kk = c := by injection hvb
  subst hvb'
  have HF := Lib.hid (fit_at hu s)
  have HB : Below w.heap.size w (w.alloc (.cells #[.slice A e.ds.length n, .slice (some ⟨g, 0, none⟩) e.cr.length kk, .slice C e.p.length i, .slice D e.q.length j] 39)) := Below.alloc (Below.refl _ _) (Nat.le_refl _) _
  have hg := World.block_lt_of_cell? w _ hc
  have f1 : ∀ x : Wb (w.alloc (.cells #[.slice A e.ds.length n, .slice (some ⟨g, 0, none⟩) e.cr.length kk, .slice C e.p.length i, .slice D e.q.length j] 39)), x.1.cell? ⟨w.heap.size, 1, none⟩ = some (.slice (some ⟨g, 0, none⟩) e.cr.length kk) := fun x => Wb.cell (by simp) x
  have f2 : ∀ x : Wb (w.alloc (.cells #[.slice A e.ds.length n, .slice (some ⟨g, 0, none⟩) e.cr.length kk, .slice C e.p.length i, .slice D e.q.length j] 39)), x.1.cell? ⟨g, k, none⟩ = some (.int .i64 u) := fun x => Wb.cell ((HB.cell (p := ⟨g, k, none⟩) hg).trans hc) x
  clear h hu hc
  cases h1 : (u == -1)
  · have HF2 : Hid (fitB e.cr k s = ((crcB s : Int) == u)) := Lib.hid (by rw [HF.out, h1, Bool.false_or])
    go_enter Tryz.func88, Tryz.ntmps88
    go_wp2_with (fail)
    refine wp_region_wb (by kernel_rfl) (by kernel_rfl) ?_; (repeat (go_big_quiet_step (first | (go_at_call 122; exact Wb.same (crcS_i s _ (by omega)))))); refine wpQuiet_nil ?_; rintro w1 ⟨⟨w1', hb1⟩, rfl⟩
    go_wp2
    go_ret
    exact ⟨ret_bool HF2.out.symm, HB.trans (hb1.mono (by simp))⟩
  · have HF2 : Hid (fitB e.cr k s = true) := Lib.hid (by rw [HF.out, h1, Bool.true_or])
    go_enter Tryz.func88, Tryz.ntmps88
    go_wp2_with (fail)
    refine wp_region_wb (by kernel_rfl) (by kernel_rfl) ?_; (repeat (go_big_quiet_step (first | (go_at_call 122; exact Wb.same (crcS_i s _ (by omega)))))); refine wpQuiet_nil ?_; rintro w1 ⟨⟨w1', hb1⟩, rfl⟩
    go_wp2
    go_ret
    exact ⟨ret_bool HF2.out.symm, HB.trans (hb1.mono (by simp))⟩
set_option maxRecDepth 20000 in
set_option maxHeartbeats 4000000 in
theorem fits_s (B gb : Nat) (e : Evd) (va vb vc vd : Value) (k : Nat) (s : ByteArray) (w : World) (hx : EvBox gb w va vb vc vd) (h : EvOwn B w e va vb vc vd) (hk : k < e.cr.length) (hcr : e.cr.length ≤ 1048576) (hs : s.size ≤ 4096) (hb : ∀ u ∈ e.cr, inB u (-1) 65535 = true) :
    Calls Tryz.prog 77 #[.pointer (some ⟨gb, 0, none⟩), .int .i64 k, .string s] w fun r w' => r = .returned (.bool (fitB e.cr k s)) ∧ Below w.heap.size w w' := by
  obtain ⟨g, c, u, hvb, hu, hc⟩ := crc_cell h hk
  have hub := inB_yes (hb u (List.mem_of_getElem? hu))
  have HF := Lib.hid (fit_at hu s)
  have f1 : ∀ x : Wb w, x.1.cell? ⟨gb, 1, none⟩ = some (.slice (some ⟨g, 0, none⟩) e.cr.length c) := fun x => Wb.cell (by rw [hx.c1, hvb]) x
  have f2 : ∀ x : Wb w, x.1.cell? ⟨g, k, none⟩ = some (.int .i64 u) := fun x => Wb.cell hc x
  clear h hu hc hx hvb hb
  by_cases h1 : u = -1
  · have hd : decide (u < 0) = true := by simp; omega
    have HF2 : Hid (fitB e.cr k s = true) := Lib.hid (by rw [HF.out, h1]; rfl)
    have H1 := Lib.hid h1
    clear h1
    go_enter Tryz.func77, Tryz.ntmps77
    go_wp2_with (fail)
    refine wp_region_wb (by kernel_rfl) (by kernel_rfl) ?_; (repeat (go_big_quiet_step (first | (go_at_call 72; exact Wb.same (crcS_s s _ (by omega)))))); refine wpQuiet_nil ?_; rintro w1 ⟨⟨w1', hb1⟩, rfl⟩
    go_wp2
    go_ret
    exact ⟨ret_bool HF2.out.symm, hb1⟩
  · have hd : decide (u < 0) = false := by simp; omega
    have HF2 : Hid (fitB e.cr k s = ((crcB s : Int) == u)) := Lib.hid (by rw [HF.out, show (u == -1) = false by simpa using h1, Bool.false_or])
    have H1 := Lib.hid h1
    clear h1
    go_enter Tryz.func77, Tryz.ntmps77
    go_wp2_with (fail)
    refine wp_region_wb (by kernel_rfl) (by kernel_rfl) ?_; (repeat (go_big_quiet_step (first | (go_at_call 72; exact Wb.same (crcS_s s _ (by omega)))))); refine wpQuiet_nil ?_; rintro w1 ⟨⟨w1', hb1⟩, rfl⟩
    go_wp2
    go_ret
    exact ⟨ret_bool HF2.out.symm, hb1⟩
set_option maxRecDepth 20000 in
set_option maxHeartbeats 8000000 in
theorem rd_i (B : Nat) (e : Evd) (va vb vc vd : Value) (k : Nat) (w : World) (h : EvOwn B w e va vb vc vd) (hn : e.ds.length ≤ 1048576) (hk : ∀ d ∈ e.ds, k < d.secs.length) :
    Calls Tryz.prog 91 #[evV va vb vc vd, .int .i64 k] w fun r w' => RetL scell 1 9 w (rdF k e.ds) r w' := by
  obtain ⟨i0, hi, hz0, hz1, hz2⟩ := info_parts scell_info
  obtain ⟨A, n, B', kk, C, i, D, j, rfl, rfl, rfl, rfl⟩ := h.shape
  have hds := h.ds
  have HB : Below w.heap.size w (w.alloc (.cells #[.slice A e.ds.length n, .slice B' e.cr.length kk, .slice C e.p.length i, .slice D e.q.length j] 39)) := Below.alloc (Below.refl _ _) (Nat.le_refl _) _
  have HK := Lib.hid hk
  obtain ⟨A', c', e', hA⟩ := hds
  injection e' with e1 _ e2
  subst e1 e2
  clear h hk
  rcases hA with hl | ⟨g, rfl, _, hg, hc⟩
  · have HR : Hid (rdF k e.ds = []) := Lib.hid (by rw [hl]; rfl)
    obtain ⟨ds, cr, p, q⟩ := e
    dsimp only at hl HB HR HK hn ⊢
    subst hl
    go_enter Tryz.func91, Tryz.ntmps91
    go_wp2
    refine wp_loop_once ?_
    go_wp2
    go_ret
    exact ⟨_, rfl, by rw [HR.out]; exact OwnL.of_nil, HB⟩
  · have HC := Lib.hid hc
    clear hc
    go_enter Tryz.func91, Tryz.ntmps91
    go_wp2
    go_loopw [12, 5] (fun ix out wr => ∃ (j : Nat) (acc : List ByteArray), j ≤ e.ds.length ∧ ix = .int .i64 j ∧ acc.length ≤ j ∧ Below w.heap.size w wr ∧ StringL w.heap.size wr out acc ∧ Hid (rdF k e.ds = acc ++ rdF k (e.ds.drop j))) (fun ix _ _ => e.ds.length - (intOf ix).toNat)
    case atStart => exact ⟨0, [], by omega, rfl, by simp, HB, OwnL.of_nil, Lib.hid rfl⟩
    case round =>
      obtain ⟨j, acc, hj, rfl, hac, hb, how, HM⟩ := hrel
      have zr := hb.size
      by_cases hlt : j < e.ds.length
      · obtain ⟨d, hd⟩ : ∃ d, e.ds[j]? = some d := ⟨e.ds[j], List.getElem?_eq_getElem hlt⟩
        have hkd := HK.out d (List.mem_of_getElem? hd)
        obtain ⟨s, hs⟩ : ∃ s, d.secs[k]? = some s := ⟨d.secs[k], List.getElem?_eq_getElem hkd⟩
        obtain ⟨bv, o1, c1⟩ := HC.out j d hd
        obtain ⟨A2, c2, rfl, hA2⟩ := OwnL.shape o1
        obtain ⟨g2, rfl, _, hg2⟩ := hA2.resolve_left (by intro h0; rw [h0] at hkd; simp at hkd)
        have PC := fun (q : Nat) (u : Value) (hu : (d.ints ++ [.slice (some ⟨g2, 0, none⟩) d.secs.length c2])[q]? = some u) => (hb.cell (p := ⟨g, j * 5 + q, none⟩) hg).trans (c1 q u hu)
        have p0 : wr.cell? ⟨g, j * 5, none⟩ = some (.int .i64 d.cyl) := PC 0 _ rfl
        have p1 := PC 1 _ rfl
        have p2 := PC 2 _ rfl
        have p3 := PC 3 _ rfl
        have p4 := PC 4 _ rfl
        have hg2r : g2 < wr.heap.size := by omega
        have s0 : wr.cell? ⟨g2, k * 2, none⟩ = some (.string s.data) := (hb.cell (p := ⟨g2, _, none⟩) hg2).trans (OwnL.cell Sec.len o1 hs (j := 0) rfl)
        have s1 : wr.cell? ⟨g2, k * 2 + 1, none⟩ = some (.int .i64 s.state) := (hb.cell (p := ⟨g2, _, none⟩) hg2).trans (OwnL.cell Sec.len o1 hs (j := 1) rfl)
        have HD := Lib.hid hd
        have HS := Lib.hid hs
        have HOW := Lib.hid how
        clear PC o1 c1 hd hs how
        have HO : Hid (StringL w.heap.size ((wr.alloc (.cells #[.int .i64 d.cyl, .int .i64 d.heads, .int .i64 d.per, .int .i64 d.size, .slice (some ⟨g2, 0, none⟩) d.secs.length c2] 43)).alloc (.cells #[.string s.data, .int .i64 s.state] 70)) _ acc) := Lib.hid ((HOW.out.alloc _).alloc _)
        have HBB : Below w.heap.size w ((wr.alloc (.cells #[.int .i64 d.cyl, .int .i64 d.heads, .int .i64 d.per, .int .i64 d.size, .slice (some ⟨g2, 0, none⟩) d.secs.length c2] 43)).alloc (.cells #[.string s.data, .int .i64 s.state] 70)) := (hb.alloc zr _).alloc (by simp; omega) _
        by_cases h3 : s.state = 3
        · have HN := rd_no HD.out HS.out HM h3
          have h3' : (s.state != 3) = false := by rw [h3]; rfl
          clear h3
          go_wp2
          go_roundw
          case rel => exact ⟨j + 1, acc, by omega, by go_num, by omega, HBB, HO.out, HN⟩
          case measure => simp [intOf]; omega
        · have HN := rd_yes HD.out HS.out HM h3
          have h3' : (s.state != 3) = true := by simpa using h3
          clear h3
          go_wp2_with (at_builtin; refine stopQ ?_)
          intro _
          refine wpList_app1 scell 1 scell_len _ rfl _ _ _ rfl w.heap.size 9 i0 (.string .empty) 16 Tryz.underlying24 hi hz0 hz1 hz2 rfl (by decide) _ acc rfl (HO.out.alloc _) _ 1 s.data rfl ?_ (by simp [scell, Value.oneCell']) (by omega) (by omega) (by simp; omega) ?_
          · intro j u hu; cases j with | zero => (simp [scell] at hu; subst hu; first | exact cell_alloc3 _ _ _ _ _ | exact cell_alloc2 _ _ _ _ | simp) | succ j => simp [scell] at hu
          intro v' w5 how2 hg2
          go_wp2_with (fail)
          go_roundw
          case rel => exact ⟨j + 1, acc ++ [s.data], by omega, by go_num, by simp; omega, own_grown_below (HO.out.alloc _) (HBB.alloc (by simp; omega) _) hg2 (Nat.le_refl _) (by simp; omega), how2, HN⟩
          case measure => simp [intOf]; omega
      · go_wp2
        go_ret
        exact ⟨_, rfl, by rw [rdg_end (by omega) HM]; exact how, hb⟩
set_option maxRecDepth 20000 in
set_option maxHeartbeats 8000000 in
theorem rd_s (B gb : Nat) (e : Evd) (va vb vc vd : Value) (k : Nat) (w : World) (hx : EvBox gb w va vb vc vd) (h : EvOwn B w e va vb vc vd) (hn : e.ds.length ≤ 1048576) (hk : ∀ d ∈ e.ds, k < d.secs.length) (hkb : k ≤ 1048576) :
    Calls Tryz.prog 79 #[.pointer (some ⟨gb, 0, none⟩), .int .i64 k] w fun r w' => RetL scell 1 9 w (rdF k e.ds) r w' := by
  obtain ⟨i0, hi, hz0, hz1, hz2⟩ := info_parts scell_info
  obtain ⟨A, n, B', kk, C, i, D, j, rfl, rfl, rfl, rfl⟩ := h.shape
  have hds := h.ds
  have hgb := World.block_lt_of_cell? w _ hx.c0
  have HX := Lib.hid hx.c0
  have HK := Lib.hid hk
  obtain ⟨A', c', e', hA⟩ := hds
  injection e' with e1 _ e2
  subst e1 e2
  clear h hk hx
  rcases hA with hl | ⟨g, rfl, _, hg, hc⟩
  · have HR : Hid (rdF k e.ds = []) := Lib.hid (by rw [hl]; rfl)
    obtain ⟨ds, cr, p, q⟩ := e
    dsimp only at hl HX HR HK hn ⊢
    subst hl
    have p0 := HX.out
    have p0' : (w.alloc (.cells #[] 9)).cell? ⟨gb, 0, none⟩ = some (.slice A 0 n) := (World.cell?_alloc_old _ _ _ (Nat.ne_of_lt hgb)).trans p0
    go_enter Tryz.func79, Tryz.ntmps79
    go_wp2
    refine wp_loop_once ?_
    go_wp2
    go_ret
    exact ⟨_, rfl, by rw [HR.out]; exact OwnL.of_empty w (Nat.le_refl _), Below.alloc (Below.refl _ _) (Nat.le_refl _) _⟩
  · have HC := Lib.hid hc
    clear hc
    go_enter Tryz.func79, Tryz.ntmps79
    go_wp2
    go_loopw [6, 5] (fun ix out wr => ∃ (j : Nat) (acc : List ByteArray), j ≤ e.ds.length ∧ ix = .int .i64 j ∧ acc.length ≤ j ∧ Below w.heap.size w wr ∧ StringL w.heap.size wr out acc ∧ Hid (rdF k e.ds = acc ++ rdF k (e.ds.drop j))) (fun ix _ _ => e.ds.length - (intOf ix).toNat)
    case atStart => exact ⟨0, [], by omega, rfl, by simp, Below.alloc (Below.refl _ _) (Nat.le_refl _) _, OwnL.of_empty w (Nat.le_refl _), Lib.hid rfl⟩
    case round =>
      obtain ⟨j, acc, hj, rfl, hac, hb, how, HM⟩ := hrel
      have zr := hb.size
      have p0 := (hb.cell (p := ⟨gb, 0, none⟩) hgb).trans HX.out
      by_cases hlt : j < e.ds.length
      · obtain ⟨d, hd⟩ : ∃ d, e.ds[j]? = some d := ⟨e.ds[j], List.getElem?_eq_getElem hlt⟩
        have hkd := HK.out d (List.mem_of_getElem? hd)
        obtain ⟨s, hs⟩ : ∃ s, d.secs[k]? = some s := ⟨d.secs[k], List.getElem?_eq_getElem hkd⟩
        obtain ⟨bv, o1, c1⟩ := HC.out j d hd
        obtain ⟨A2, c2, rfl, hA2⟩ := OwnL.shape o1
        obtain ⟨g2, rfl, _, hg2⟩ := hA2.resolve_left (by intro h0; rw [h0] at hkd; simp at hkd)
        have p4 : wr.cell? ⟨g, j * 5 + 4, none⟩ = some (.slice (some ⟨g2, 0, none⟩) d.secs.length c2) := (hb.cell (p := ⟨g, j * 5 + 4, none⟩) hg).trans (c1 4 _ rfl)
        have hg2r : g2 < wr.heap.size := by omega
        have s0 : wr.cell? ⟨g2, k * 2, none⟩ = some (.string s.data) := (hb.cell (p := ⟨g2, _, none⟩) hg2).trans (OwnL.cell Sec.len o1 hs (j := 0) rfl)
        have s1 : wr.cell? ⟨g2, k * 2 + 1, none⟩ = some (.int .i64 s.state) := (hb.cell (p := ⟨g2, _, none⟩) hg2).trans (OwnL.cell Sec.len o1 hs (j := 1) rfl)
        have HD := Lib.hid hd
        have HS := Lib.hid hs
        have HOW := Lib.hid how
        clear o1 c1 hd hs how
        have HO : Hid (StringL w.heap.size (wr.alloc (.cells #[.string s.data, .int .i64 s.state] 70)) _ acc) := Lib.hid (HOW.out.alloc _)
        have HBB : Below w.heap.size w (wr.alloc (.cells #[.string s.data, .int .i64 s.state] 70)) := hb.alloc zr _
        by_cases h3 : s.state = 3
        · have HN := rd_no HD.out HS.out HM h3
          have h3' : (s.state != 3) = false := by rw [h3]; rfl
          clear h3
          go_wp2
          go_roundw
          case rel => exact ⟨j + 1, acc, by omega, by go_num, by omega, HBB, HO.out, HN⟩
          case measure => simp [intOf]; omega
        · have HN := rd_yes HD.out HS.out HM h3
          have h3' : (s.state != 3) = true := by simpa using h3
          clear h3
          go_wp2_with (at_builtin; refine stopQ ?_)
          intro _
          refine wpList_app1 scell 1 scell_len _ rfl _ _ _ rfl w.heap.size 9 i0 (.string .empty) 16 Tryz.underlying24 hi hz0 hz1 hz2 rfl (by decide) _ acc rfl (HO.out.alloc _) _ 1 s.data rfl ?_ (by simp [scell, Value.oneCell']) (by omega) (by omega) (by simp; omega) ?_
          · intro j u hu; cases j with | zero => (simp [scell] at hu; subst hu; first | exact cell_alloc2 _ _ _ _ | simp) | succ j => simp [scell] at hu
          intro v' w5 how2 hg2
          go_wp2_with (fail)
          go_roundw
          case rel => exact ⟨j + 1, acc ++ [s.data], by omega, by go_num, by simp; omega, own_grown_below (HO.out.alloc _) (HBB.alloc (by simp; omega) _) hg2 (Nat.le_refl _) (by simp; omega), how2, HN⟩
          case measure => simp [intOf]; omega
      · go_wp2
        go_ret
        exact ⟨_, rfl, by rw [rdg_end (by omega) HM]; exact how, hb⟩
end Go.Proofs.YtfcdienphillnaaGreat
namespace Go.Proofs.YtfcdienphillnaaGreat
set_option linter.unusedVariables false
set_option linter.unusedSimpArgs false
open Go.RowKit
def fiE (s : ByteArray) (l : List Int) (c : Int) : ByteArray × Int := if unkOk s l c then (match redS (rowsOf s (l.map Int.toNat) c.toNat) with | none => (.empty, 3) | some b => (strN (fillN (bts s) (l.map Int.toNat) (comp low (leastR b l.length) 0).testBit), 0)) else (.empty, 1)
def fiV (s : ByteArray) (l : List Int) (c : Int) : Value := .tuple #[.string (fiE s l c).1, .int .i64 (fiE s l c).2]
theorem fiV_no {s : ByteArray} {l : List Int} {c : Int} (h : unkOk s l c = false) : fiV s l c = .tuple #[.string .empty, .int .i64 1] := by unfold fiV fiE; rw [h]; rfl
theorem fiV_none {s : ByteArray} {u : List Nat} {c : Nat} (h : unkOk s (intsN u) c = true) (hx : redS (rowsOf s u c) = none) : fiV s (intsN u) c = .tuple #[.string .empty, .int .i64 3] := by unfold fiV fiE; rw [h, intsN_back, Int.toNat_natCast, hx]; rfl
theorem fiV_some {s : ByteArray} {u : List Nat} {c : Nat} {b : List Rw} (h : unkOk s (intsN u) c = true) (hx : redS (rowsOf s u c) = some b) : fiV s (intsN u) c = .tuple #[.string (strN (fillN (bts s) u (comp low (leastR b u.length) 0).testBit)), .int .i64 0] := by unfold fiV fiE; rw [h, intsN_back, Int.toNat_natCast, hx, intsN_len]; rfl
theorem totN_one (n : Nat) : totN 1 n = 1 := by
  unfold totN; split
  · rfl
  · have := Nat.two_pow_pos n; omega
theorem outI_one (l unk : List Nat) (rows : List Rw) : outI l unk rows 1 = [strN (fillOf l unk top rows (freeU top rows unk.length).reverse 0)] := rfl
end Go.Proofs.YtfcdienphillnaaGreat
namespace Go.Proofs.YtfcdienphillnaaGreat
set_option linter.unusedVariables false
set_option linter.unusedSimpArgs false
open Go.RowKit
theorem sb_full {s : ByteArray} {U : List Nat} {b : List Rw} (h : b.length < U.length) : sbR s U (some b) = (.empty, 11) := by unfold sbR; exact if_pos h
theorem sb_one {s : ByteArray} {U : List Nat} {b : List Rw} (h : ¬ b.length < U.length) : sbR s U (some b) = (strN (fillN (bts s) U (comp low b 0).testBit), 0) := by unfold sbR; exact if_neg h
theorem one_free {a : List Rw} {u : Nat} (ha : Red top a) (hu : ∀ e ∈ a, e.m < 2 ^ u) : ((freeU top a u).length < 62 ∧ 2 ^ (freeU top a u).length ≤ 1) ↔ a.length = u := by
  have h := free_len ha (red_plt ha hu)
  constructor
  · rintro ⟨_, h2⟩
    have : (freeU top a u).length = 0 := by
      rcases Nat.eq_zero_or_pos (freeU top a u).length with h0 | h0
      · exact h0
      · have := Nat.pow_le_pow_right (n := 2) (by omega) h0; omega
    omega
  · intro e
    have : (freeU top a u).length = 0 := by omega
    rw [this]; exact ⟨by decide, by decide⟩
set_option maxRecDepth 20000 in
set_option maxHeartbeats 4000000 in
theorem sol_i (s : ByteArray) (l : List Int) (v : Value) (c : Int) (w : World) (h : IntsAt w v l) (hm : l.length ≤ 1048576) (hs : s.size ≤ 1048576) :
    Calls Tryz.prog 124 #[.string s, v, .int .i64 c] w fun e w' => e = .returned (sbV s l c) ∧ Below w.heap.size w w' := by
  obtain ⟨i0, hi, hz0, hz1, hz2⟩ := info_parts icell_info
  have HR := Lib.hid (rises_i l v 0 (s.size - 1) w h (by omega))
  cases hok : sbOk s l c
  · have HF := Lib.hid (sbV_no hok)
    have hb4 : Hid (∀ b1 b2 b3, inB s.size 1 64 = b1 → inB c 0 65535 = b2 → risesB 0 (s.size - 1) l = b3 → ((b1 && b2) && (b3 && decide (l.length ≤ 8))) = false) := Lib.hid (by rintro _ _ _ rfl rfl rfl; exact hok)
    obtain ⟨A, cA, rfl, _⟩ := h
    have H4 := hb4.out _ _ _ rfl rfl rfl
    generalize risesB 0 (s.size - 1) l = b3 at *
    generalize hb1 : inB s.size 1 64 = b1 at *
    generalize hb2 : inB c 0 65535 = b2 at *
    clear hok hb4
    by_cases h8 : l.length ≤ 8
    · rw [decide_eq_true h8] at H4
      cases b1 <;> cases b2 <;> cases b3 <;> first | (cases H4; done) | skip
      all_goals
        clear H4
        go_enter Tryz.func124, Tryz.ntmps124
        go_wp2_with (first | (go_at_call 51; refine (within_i _ _ _ _).mono ?_; rintro e w1 ⟨rfl, rfl⟩) | (go_at_call 144; refine HR.out.mono ?_; rintro e w1 ⟨rfl, rfl⟩) | (go_at_call 143; go_in))
        rw [HF.out]
        exact bodyPost_ret (by simp [results, Tryz.results124, go_sem]; first | done | rfl | exact ⟨rfl, rfl⟩) rfl ⟨rfl, Below.refl _ _⟩
    · cases b1 <;> cases b2 <;> cases b3
      all_goals
        clear H4
        go_enter Tryz.func124, Tryz.ntmps124
        go_wp2_with (first | (go_at_call 51; refine (within_i _ _ _ _).mono ?_; rintro e w1 ⟨rfl, rfl⟩) | (go_at_call 144; refine HR.out.mono ?_; rintro e w1 ⟨rfl, rfl⟩) | (go_at_call 143; go_in))
        rw [HF.out]
        exact bodyPost_ret (by simp [results, Tryz.results124, go_sem]; first | done | rfl | exact ⟨rfl, rfl⟩) rfl ⟨rfl, Below.refl _ _⟩
  · have hok2 := hok
    unfold sbOk at hok2
    rw [Bool.and_eq_true, Bool.and_eq_true, Bool.and_eq_true, decide_eq_true_eq] at hok2
    obtain ⟨⟨hb1, hb2⟩, hb3, h8⟩ := hok2
    obtain ⟨pl, rfl, hpm, hps⟩ := places_nat hb3
    have h1 := inB_yes hb1
    have h2 := inB_yes hb2
    obtain ⟨x, rfl⟩ : ∃ x : Nat, c = x := ⟨c.toNat, by omega⟩
    have HF := Lib.hid (sbV_yes hok)
    rw [intsN_len] at h8 hm
    rw [hb3] at HR
    obtain ⟨A, cA, rfl, hA⟩ := h
    have hUl := exN_len pl (8 * pl.length)
    have HX := Lib.hid (fun v W (h : IntsAt W v (intsN (exN pl (8 * pl.length)))) => fills_i s (exN pl (8 * pl.length)) v x 1 W h (fun b hb => exN_mem hpm hb) ((exN_srt hps).imp fun h => Nat.ne_of_lt h) (by omega) (by omega) (by omega) (by omega))
    have hbo := Lib.hid (red_both piv_top (u := (exN pl (8 * pl.length)).length) (by omega) (rowsR_lt s.size (exN pl (8 * pl.length)) (restOf s (exN pl (8 * pl.length)) x)))
    have he2 : rowsR s.size (exN pl (8 * pl.length)) (restOf s (exN pl (8 * pl.length)) x) = rowsOf s (exN pl (8 * pl.length)) x := rfl
    rw [he2] at hbo
    have HPM := Lib.hid hpm
    simp only [intsN_len] at HR ⊢
    clear he2 hok hb3 hps hpm hUl
    go_enter Tryz.func124, Tryz.ntmps124
    go_wp2_with (first | (go_at_call 51; refine (within_i _ _ _ _).mono ?_; rintro e w1 ⟨rfl, rfl⟩) | (go_at_call 144; refine HR.out.mono ?_; rintro e w1 ⟨rfl, rfl⟩) | (go_at_call 143; go_in))
    go_loopw [34, 8] (fun i y wr => ∃ k : Nat, k ≤ pl.length ∧ i = .int .i64 k ∧ Below w.heap.size w wr ∧ Hid (Int64L w.heap.size wr y (intsN (exN pl (8 * k))))) (fun i _ _ => pl.length - (intOf i).toNat)
    case atStart => exact ⟨0, Nat.zero_le _, rfl, Below.refl _ _, Lib.hid OwnL.of_nil⟩
    case round =>
      obtain ⟨k, hk, rfl, hb, HO⟩ := hrel
      by_cases hlt : k < pl.length
      · obtain ⟨p, hp⟩ : ∃ p, pl[k]? = some p := ⟨pl[k], List.getElem?_eq_getElem hlt⟩
        obtain ⟨g, rfl, hg, hc⟩ := hA.resolve_left (by intro h0; have := congrArg List.length h0; rw [intsN_len] at this; simp only [List.length_nil] at this; omega)
        have p0 := (hb.cell (p := ⟨g, k, none⟩) hg).trans (hc k _ (intsN_get hp))
        have hpm := HPM.out p (List.mem_of_getElem? hp)
        have HN := Lib.hid (fun b (hb : b < 8) => exN_next hb hp)
        generalize hwo : wr = wo at *; clear hwo
        have hbo2 := hb
        have HO2 : Hid (Int64L w.heap.size wo _ (intsN (exN pl (8 * k + 0)))) := HO
        clear hp hc HO
        go_wp2
        go_loopw [38, 8] (fun i y wr => ∃ b : Nat, b ≤ 8 ∧ i = .int .i64 b ∧ Below w.heap.size w wr ∧ Hid (Int64L w.heap.size wr y (intsN (exN pl (8 * k + b))))) (fun i _ _ => 8 - (intOf i).toNat)
        case atStart => exact ⟨0, Nat.zero_le _, rfl, hbo2, HO2⟩
        case round =>
          clear HO2 hbo2 hb
          obtain ⟨b, hb8, rfl, hb, HO⟩ := hrel
          have zr := hb.size
          obtain ⟨Ay, cy, rfl, _⟩ := ints_shape HO.out
          rw [exN_len] at HO ⊢
          by_cases hlb : b < 8
          · have HNb := Lib.hid (HN.out b hlb)
            have HC : Hid (((8 * p + b : Nat) : Int) = 8 * (p : Int) + (b : Int)) := Lib.hid (by omega)
            have hbl : (intsN (exN pl (8 * k + b))).length + 1 ≤ 16777216 := by rw [intsN_len, exN_len]; omega
            have hby : (8 : Nat) ≤ 4096 := by decide
            have hbase : w.heap.size ≤ (wr.alloc (.cells #[.int .i64 (8 * (p : Int) + (b : Int))] 2)).heap.size := by simp; omega
            go_wp2_with (at_builtin; refine wpList_app1 icell 1 icell_len _ rfl _ _ _ rfl w.heap.size 2 i0 (.int .i64 0) 8 Tryz.underlying23 hi hz0 hz1 hz2 rfl (by decide) _ (intsN (exN pl (8 * k + b))) rfl (HO.out.alloc _) _ 1 (8 * (p : Int) + (b : Int)) rfl ?_ (by simp [icell, Value.oneCell']) hbl hby hbase ?_; (· intro j u hu; cases j with | zero => (simp [icell] at hu; subst hu; simp) | succ j => simp [icell] at hu); intro v' w8 how8 hg8'; have hg8 : Below w.heap.size w w8 := own_grown_below (HO.out.alloc (.cells #[.int .i64 (8 * (p : Int) + (b : Int))] 2)) (Below.alloc hb zr _) hg8' (Nat.le_refl _) hbase)
            go_roundw
            case rel => exact ⟨b + 1, by omega, by go_num, hg8, by rw [HNb.out, intsN_app, HC.out]; exact Lib.hid how8⟩
            case measure => simp [intOf]; omega
          · obtain rfl : b = 8 := by omega
            go_wp2
            go_roundw
            case rel => exact ⟨k + 1, by omega, by go_num, hb, HO⟩
            case measure => simp [intOf]; omega
      · obtain rfl : k = pl.length := by omega
        obtain ⟨Ay, cy, rfl, _⟩ := ints_shape HO.out
        have HIA := Lib.hid (intsAt_own HO.out)
        have hU64 : (exN pl (8 * pl.length)).length ≤ 64 := by rw [exN_len]; omega
        have zr := hb.size
        clear HO HR HPM hA
        generalize exN pl (8 * pl.length) = U at *
        have HF2 := HF
        generalize hXi : redI top [] (rowsOf s U x) = X at *
        generalize hXs : redS (rowsOf s U x) = Y at *
        clear hXi hXs
        unfold filQ at HX
        rcases hbo.out with ⟨rfl, rfl, _⟩ | ⟨a, b, rfl, rfl, hra, hrb, _, hua, hub2, hsa, hsb, hab, hal⟩
        · go_wp2_with (fail)
          refine (HX.out _ _ HIA.out).mono ?_; rintro e w2 ⟨rfl, hb2⟩
          go_wp2
          rw [HF.out]
          exact bodyPost_ret (by simp [results, Tryz.results124, go_sem]; first | done | rfl | exact ⟨rfl, rfl⟩) rfl ⟨rfl, hb.trans (hb2.mono zr)⟩
        · simp only [totN_one, outI_one] at HX
          have hof := one_free hra hua
          by_cases hlu : b.length < U.length
          · have HFF := Lib.hid (sb_full (s := s) hlu)
            have hd : decide ((freeU top a U.length).length < 62 ∧ 2 ^ (freeU top a U.length).length ≤ 1) = false := decide_eq_false (by rw [hof]; omega)
            rw [hd] at HX
            generalize strN (fillOf (bts s) U top a (freeU top a U.length).reverse 0) = sr at *
            clear hra hrb hua hub2 hsa hsb hof hd hal hbo
            go_wp2_with (fail)
            refine (HX.out _ _ HIA.out).mono ?_; rintro e w2 ⟨v2, rfl, o2, hb2⟩
            obtain ⟨A2, c2, rfl, _⟩ := OwnL.shape o2
            go_wp2
            rw [HF.out, HFF.out]
            exact bodyPost_ret (by simp [results, Tryz.results124, go_sem]; first | done | rfl | exact ⟨rfl, rfl⟩) rfl ⟨rfl, hb.trans (hb2.mono zr)⟩
          · have hle := red_len_le hrb hub2
            have hau : a.length = U.length := by omega
            have HFF := Lib.hid (sb_one (s := s) hlu)
            have hd : decide ((freeU top a U.length).length < 62 ∧ 2 ^ (freeU top a U.length).length ≤ 1) = true := decide_eq_true (hof.2 hau)
            rw [hd] at HX
            have hos := only_same (l := bts s) (by omega) hra hrb hua hub2 (fun x => (hsa x).trans (hsb x).symm) hau
            simp only [hos] at HX
            generalize strN (fillN (bts s) U (comp low b 0).testBit) = sr at *
            clear hra hrb hua hub2 hsa hsb hof hd hal hbo hos
            go_wp2_with (fail)
            refine (HX.out _ _ HIA.out).mono ?_; rintro e w2 ⟨v2, rfl, o2, hb2⟩
            obtain ⟨A2, c2, rfl, hA2⟩ := OwnL.shape o2
            obtain ⟨g2, rfl, _, _⟩ := hA2.resolve_left (by simp)
            have p0 := StringL.at_ (k := 0) o2 rfl rfl
            clear o2 HX
            go_wp2
            rw [HF.out, HFF.out]
            exact bodyPost_ret (by simp [results, Tryz.results124, go_sem]; first | done | rfl | exact ⟨rfl, rfl⟩) rfl ⟨rfl, hb.trans (hb2.mono zr)⟩
end Go.Proofs.YtfcdienphillnaaGreat
