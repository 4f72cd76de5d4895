/- LostSectors, the implementation: the walk. -/
import Derived.Test.YtfcdienphillnaaGreatLr38
import Derived.Test.YtfcdienphillnaaGreatLr40
import Derived.Test.YtfcdienphillnaaGreatLr22
namespace Go.Proofs.YtfcdienphillnaaGreat
set_option linter.unusedVariables false
set_option linter.unusedSimpArgs false
open Go.RowKit
set_option maxRecDepth 20000 in
set_option maxHeartbeats 8000000 in
theorem los_i (B : Nat) (e : Evd) (va vb vc vd : Value) (w : World) (h : EvOwn B w e va vb vc vd) (hs : EvSmall e) :
    Calls Tryz.prog 22 #[evV va vb vc vd] w fun r w' => ∃ v, r = .returned (.tuple #[v, .int .i64 (rdC e)]) ∧ Int64L w.heap.size w' v (rpLo e) ∧ Below w.heap.size w w' := by
  have H0 := Lib.hid h
  obtain ⟨i0, hi, hz0', hz1', hz2'⟩ := info_parts icell_info
  obtain ⟨A, n, B', kk, C, i, D, j, rfl, rfl, rfl, rfl⟩ := h.shape
  have HBZ : Below w.heap.size w (w.alloc (.cells #[.slice A e.ds.length n, .slice B' e.cr.length kk, .slice C e.p.length i, .slice D e.q.length j] 39)) := Below.alloc (Below.refl _ _) (Nat.le_refl _) _
  have RE := Row.alloc w #[.slice A e.ds.length n, .slice B' e.cr.length kk, .slice C e.p.length i, .slice D e.q.length j] 39
  have zz : ((w.alloc (.cells #[.slice A e.ds.length n, .slice B' e.cr.length kk, .slice C e.p.length i, .slice D e.q.length j] 39))).heap.size = w.heap.size + 1 := by simp
  have HV := Lib.hid (ev_i B e _ _ _ _ (w.alloc (.cells #[.slice A e.ds.length n, .slice B' e.cr.length kk, .slice C e.p.length i, .slice D e.q.length j] 39)) (h.below HBZ) hs)
  have l0 := RE 0 _ rfl
  have l1 := RE 1 _ rfl
  have l2 := RE 2 _ rfl
  have l3 := RE 3 _ rfl
  have HRE := Lib.hid RE
  have HB := Lib.hid HBZ
  clear h RE HBZ
  go_enter Tryz.func22, Tryz.ntmps22
  cases hok : evOk e
  · rw [hok] at HV
    have hL : rpLo e = [] := by unfold rpLo; rw [hok]; rfl
    have hC : rdC e = 1 := by unfold rdC; rw [hok]; rfl
    rw [hL, hC]
    clear hL hC
    go_wp2_with (fail)
    generalize (w.alloc (.cells #[.slice A e.ds.length n, .slice B' e.cr.length kk, .slice C e.p.length i, .slice D e.q.length j] 39)) = w0 at *
    refine HV.out.mono ?_; rintro r w4 ⟨rfl, hb4⟩
    have hb := HB.out.trans (hb4.mono (by omega))
    go_wp2_with (fail)
    go_ret2
    exact ⟨_, rfl, OwnL.of_nil, hb⟩
  · obtain ⟨z, P, m, T, N, F⟩ := rd_f hok
    rw [hok] at HV
    have hL : rpLo e = fltN (rdM e) N := by unfold rpLo; rw [hok, F.hz, F.hl]; rfl
    have hC : rdC e = 0 := by unfold rdC; rw [hok]; rfl
    have hle := F.le
    have hSN : (rdS e).length = N := by rw [F.hs]; exact rpS_len
    have HREP := Lib.hid (fun (w' : World) (hb : Below w.heap.size w w') => rep_i B e _ _ _ _ z P m T N F.f F.hn w' (H0.out.below hb))
    rw [← F.hs] at HREP
    rw [hL, hC]
    clear hL hC hok F
    go_wp2_with (fail)
    generalize (w.alloc (.cells #[.slice A e.ds.length n, .slice B' e.cr.length kk, .slice C e.p.length i, .slice D e.q.length j] 39)) = w0 at *
    refine HV.out.mono ?_; rintro r w4 ⟨rfl, hb4⟩
    have hb := HB.out.trans (hb4.mono (by omega))
    have z4 := hb4.size
    have RE4 := HRE.out.below hb4 (by omega)
    have l0 := RE4 0 _ rfl
    have l1 := RE4 1 _ rfl
    have l2 := RE4 2 _ rfl
    have l3 := RE4 3 _ rfl
    go_wp2_with (fail)
    refine (HREP.out w4 hb).mono ?_; rintro r w5 ⟨x, y, K, rfl, hx, hxk, hwk, hy, hb5⟩
    obtain ⟨X, c, rfl, hX⟩ := OwnL.shape hx
    rw [hSN] at hx ⊢
    obtain ⟨Y, ly, cy, rfl⟩ := own_slice hy
    have z5 := hb5.size
    have Ba : Below w5.heap.size w5 ((w5.alloc (.cells #[.int .i64 z.cyl, .int .i64 z.heads, .int .i64 (P : Int), .int .i64 z.size, .slice X N c] 43)).alloc (.cells #[.slice Y ly cy] 47)) := Below.alloc (Below.alloc (Below.refl _ _) (Nat.le_refl _) _) (by simp) _
    have z6 : (((w5.alloc (.cells #[.int .i64 z.cyl, .int .i64 z.heads, .int .i64 (P : Int), .int .i64 z.size, .slice X N c] 43)).alloc (.cells #[.slice Y ly cy] 47))).heap.size = w5.heap.size + 2 := by simp
    have RD : Row ((w5.alloc (.cells #[.int .i64 z.cyl, .int .i64 z.heads, .int .i64 (P : Int), .int .i64 z.size, .slice X N c] 43)).alloc (.cells #[.slice Y ly cy] 47)) w5.heap.size [.int .i64 z.cyl, .int .i64 z.heads, .int .i64 (P : Int), .int .i64 z.size, .slice X N c] := (Row.alloc w5 #[.int .i64 z.cyl, .int .i64 z.heads, .int .i64 (P : Int), .int .i64 z.size, .slice X N c] 43).below (Below.alloc (Below.refl _ _) (Nat.le_refl _) _) (by simp)
    have HX := Lib.hid hX
    have HLW : Hid (LosW w w5.heap.size [.int .i64 z.cyl, .int .i64 z.heads, .int .i64 (P : Int), .int .i64 z.size, .slice X N c] (.slice X N c) (rdS e) (rdM e) ((w5.alloc (.cells #[.int .i64 z.cyl, .int .i64 z.heads, .int .i64 (P : Int), .int .i64 z.size, .slice X N c] 43)).alloc (.cells #[.slice Y ly cy] 47)) (.slice none 0 0) 0) := Lib.hid
      ⟨(hb.trans (hb5.mono (by have := hb.size; omega))).trans (Ba.mono (by have := hb.size; omega)), OwnL.of_nil, RD, OwnL.below (OwnL.base hx (by omega)) Ba, (fun e0 => nomatch e0), (fun k e0 => nomatch e0), by omega⟩
    have x4 := RD 4 _ rfl
    have HSN := Lib.hid hSN
    clear RE4 l0 l1 l2 l3 hx hy hX Ba RD hb5 hSN HV HRE HREP
    go_wp2_with (fail)
    clear x4
    go_loopw [20, 6] (fun ii out wx => ∃ q : Nat, q ≤ N ∧ ii = .int .i64 q ∧ Hid (LosW w w5.heap.size [.int .i64 z.cyl, .int .i64 z.heads, .int .i64 (P : Int), .int .i64 z.size, .slice X N c] (.slice X N c) (rdS e) (rdM e) wx out q)) (fun ii _ _ => N - (intOf ii).toNat)
    case atStart => exact ⟨0, by omega, rfl, HLW⟩
    case round =>
      clear HLW
      obtain ⟨q, hq, rfl, HW⟩ := hrel
      by_cases hlt : q < N
      · obtain ⟨s, hs⟩ : ∃ s, (rdS e)[q]? = some s := ⟨(rdS e)[q]'(by rw [HSN.out]; exact hlt), List.getElem?_eq_getElem (by rw [HSN.out]; exact hlt)⟩
        have hsE : rdS e ≠ [] := fun e0 => by rw [e0] at hs; simp at hs
        obtain ⟨g, rfl, _, _⟩ := HX.out.resolve_left hsE
        have c0 := OwnL.at1 Sec.len HW.out.s hs (j := 0) rfl
        have c1 := OwnL.at1 Sec.len HW.out.s hs (j := 1) rfl
        simp only [Nat.add_zero] at c0
        have hM := rdM_at hs
        have hqi : (q : Int) < (N : Int) := by omega
        have Bb : Below wr.heap.size wr (wr.alloc (.cells #[.string s.data, .int .i64 s.state] 70)) := Below.alloc (Below.refl _ _) (Nat.le_refl _) _
        have HW7 := Lib.hid (HW.out.below Bb)
        have z7 : ((wr.alloc (.cells #[.string s.data, .int .i64 s.state] 70))).heap.size = wr.heap.size + 1 := by simp
        cases hst : (s.state == 3)
        · have HW8 := Lib.hid (HW7.out.no (hM.trans hst))
          clear hs hsE hM HW HW7 Bb
          go_wp2_with (fail)
          go_roundw
          case rel => exact ⟨q + 1, by omega, by go_num, HW8⟩
          case measure => simp [intOf]; omega
        · have Bc : Below ((wr.alloc (.cells #[.string s.data, .int .i64 s.state] 70))).heap.size (wr.alloc (.cells #[.string s.data, .int .i64 s.state] 70)) (((wr.alloc (.cells #[.string s.data, .int .i64 s.state] 70))).alloc (.cells #[.int .i64 (q : Int)] 2)) := Below.alloc (Below.refl _ _) (Nat.le_refl _) _
          have HW8 := Lib.hid (HW7.out.below Bc)
          have RA := Row.alloc (wr.alloc (.cells #[.string s.data, .int .i64 s.state] 70)) #[.int .i64 (q : Int)] 2
          rw [z7] at RA
          have hfl := flt_len (rdM e) q
          have HM := Lib.hid (hM.trans hst)
          have z8 := HW8.out.bw.size
          clear hs hsE hM HW HW7 Bb Bc
          go_wp2_with (at_builtin; refine stopQ ?_)
          intro _
          refine wpList_app1at icell 1 icell_len _ rfl _ _ _ rfl w.heap.size 2 i0 (.int .i64 0) 8 Tryz.underlying23 hi hz0' hz1' hz2' rfl (by decide) _ (fltN (rdM e) q) rfl HW8.out.l _ 1 (q : Int) rfl RA (by simp [icell, Value.oneCell']) (by omega) (by omega) z8 ?_
          intro v' w12 how hgr hat
          have HW9 := Lib.hid (HW8.out.app z8 hgr how hat HM.out)
          clear HW8 RA how hgr hat c0 c1
          go_wp2_with (fail)
          go_roundw
          case rel => exact ⟨q + 1, by omega, by go_num, HW9⟩
          case measure => simp [intOf]; omega
      · obtain rfl : N = q := by omega
        go_wp2_with (fail)
        go_ret2
        exact ⟨_, rfl, HW.out.l, HW.out.bw⟩
end Go.Proofs.YtfcdienphillnaaGreat
