/- LostSectors, the reference: the walk. RepairDisc, the implementation: the walk. RepairDisc, the reference: the walk. Opening the arguments of a law: from the form's reading to plain facts. Opening a slice of laws.Sector that came in. Printed by gen_flat.py. Opening a slice of discs that came in. Opening a slice of int64 that came in. Opening a slice of string that came in. Opening evidence that came in. Printed by gen_oevd.py. The walks of a repair, of the disc and of the lost sectors, and the laws' helpers: one text that the laws import. -/
import Derived.Test.YtfcdienphillnaaGreatLr38
import Derived.Test.YtfcdienphillnaaGreatLr42
import Derived.Test.YtfcdienphillnaaGreatLr23
import Derived.Test.YtfcdienphillnaaGreatLr36
import Derived.Test.YtfcdienphillnaaGreatLr40
import Derived.Test.YtfcdienphillnaaGreatLr22
import Derived.Test.YtfcdienphillnaaGreatLr01
import Derived.Test.YtfcdienphillnaaGreatLr02
import Derived.Test.YtfcdienphillnaaGreatLr03
import Derived.Test.YtfcdienphillnaaGreatLr05
import Derived.Test.YtfcdienphillnaaGreatLr06
import Derived.Test.YtfcdienphillnaaGreatLr41
import Derived.ProofKit
import Derived.OpenShut
import Derived.ShutString
import Derived.ChangeOld
import Derived.Below
import Derived.Lib.SmallJoins
import Derived.Deep.Slices
namespace Go.Proofs.YtfcdienphillnaaGreat
set_option linter.unusedVariables false
set_option linter.unusedSimpArgs false
open Go.RowKit
set_option maxRecDepth 20000 in
set_option maxHeartbeats 8000000 in
theorem los_s (B : Nat) (e : Evd) (va vb vc vd : Value) (w : World) (h : EvOwn B w e va vb vc vd) (hs : EvSmall e) :
    Calls Tryz.prog 21 #[evV va vb vc vd] w fun r w' => ∃ v, r = .returned (.tuple #[v, .int .i64 (rdC e)]) ∧ Int64L w.heap.size w' v (rpLo e) ∧ Below w.heap.size w w' := by
  have H0 := Lib.hid h
  obtain ⟨i0, hi, hz0', hz1', hz2'⟩ := info_parts icell_info
  obtain ⟨A, n, B', kk, C, i, D, j, rfl, rfl, rfl, rfl⟩ := h.shape
  have HBZ : Below w.heap.size w ((w.alloc (.cells #[.slice A e.ds.length n, .slice B' e.cr.length kk, .slice C e.p.length i, .slice D e.q.length j] 39)).alloc (.cells #[] 2)) := Below.alloc (Below.alloc (Below.refl _ _) (Nat.le_refl _) _) (by simp) _
  have RE : Row ((w.alloc (.cells #[.slice A e.ds.length n, .slice B' e.cr.length kk, .slice C e.p.length i, .slice D e.q.length j] 39)).alloc (.cells #[] 2)) w.heap.size [.slice A e.ds.length n, .slice B' e.cr.length kk, .slice C e.p.length i, .slice D e.q.length j] := (Row.alloc w #[.slice A e.ds.length n, .slice B' e.cr.length kk, .slice C e.p.length i, .slice D e.q.length j] 39).below (Below.alloc (Below.refl _ _) (Nat.le_refl _) _) (by simp)
  have zz : (((w.alloc (.cells #[.slice A e.ds.length n, .slice B' e.cr.length kk, .slice C e.p.length i, .slice D e.q.length j] 39)).alloc (.cells #[] 2))).heap.size = w.heap.size + 2 := by simp
  have HO1 := OwnL.of_empty (f := icell) (z := 1) (e := 2) (B := w.heap.size) (w.alloc (.cells #[.slice A e.ds.length n, .slice B' e.cr.length kk, .slice C e.p.length i, .slice D e.q.length j] 39)) (by simp)
  have s1 : (w.alloc (.cells #[.slice A e.ds.length n, .slice B' e.cr.length kk, .slice C e.p.length i, .slice D e.q.length j] 39)).heap.size = w.heap.size + 1 := by simp
  rw [s1] at HO1
  have HV := Lib.hid (evp_s B w.heap.size e _ _ _ _ ((w.alloc (.cells #[.slice A e.ds.length n, .slice B' e.cr.length kk, .slice C e.p.length i, .slice D e.q.length j] 39)).alloc (.cells #[] 2)) ⟨RE 0 _ rfl, RE 1 _ rfl, RE 2 _ rfl, RE 3 _ rfl⟩ (h.below HBZ) hs)
  have HRE := Lib.hid RE
  have HB := Lib.hid HBZ
  clear h RE HBZ s1
  go_enter Tryz.func21, Tryz.ntmps21
  cases hok : evOk e
  · rw [hok] at HV
    have hL : rpLo e = [] := by unfold rpLo; rw [hok]; rfl
    have hC : rdC e = 1 := by unfold rdC; rw [hok]; rfl
    rw [hL, hC]
    clear hL hC
    go_wp2_with (fail)
    generalize ((w.alloc (.cells #[.slice A e.ds.length n, .slice B' e.cr.length kk, .slice C e.p.length i, .slice D e.q.length j] 39)).alloc (.cells #[] 2)) = w0 at *
    refine HV.out.mono ?_; rintro r w4 ⟨rfl, hb4⟩
    have hb := HB.out.trans (hb4.mono (by omega))
    go_wp2_with (fail)
    go_ret2
    exact ⟨_, rfl, OwnL.below HO1 hb4, hb⟩
  · obtain ⟨z, P, m, T, N, F⟩ := rd_f hok
    rw [hok] at HV
    have hL : rpLo e = fltN (rdM e) N := by unfold rpLo; rw [hok, F.hz, F.hl]; rfl
    have hC : rdC e = 0 := by unfold rdC; rw [hok]; rfl
    have hle := F.le
    have hSN : (rdS e).length = N := by rw [F.hs]; exact rpS_len
    have HREP := Lib.hid (fun (w' : World) (hb : Below w.heap.size w w') (hr : Row w' w.heap.size [.slice A e.ds.length n, .slice B' e.cr.length kk, .slice C e.p.length i, .slice D e.q.length j]) => rep_s B w.heap.size e _ _ _ _ z P m T N F.f F.hn w' ⟨hr 0 _ rfl, hr 1 _ rfl, hr 2 _ rfl, hr 3 _ rfl⟩ (H0.out.below hb))
    rw [← F.hs] at HREP
    rw [hL, hC]
    clear hL hC hok F
    go_wp2_with (fail)
    generalize ((w.alloc (.cells #[.slice A e.ds.length n, .slice B' e.cr.length kk, .slice C e.p.length i, .slice D e.q.length j] 39)).alloc (.cells #[] 2)) = w0 at *
    refine HV.out.mono ?_; rintro r w4 ⟨rfl, hb4⟩
    have hb := HB.out.trans (hb4.mono (by omega))
    have z4 := hb4.size
    have RE4 := HRE.out.below hb4 (by omega)
    go_wp2_with (fail)
    refine (HREP.out w4 hb RE4).mono ?_; rintro r w5 ⟨x, y, K, rfl, hx, hxk, hwk, hy, hb5⟩
    obtain ⟨X, c, rfl, hX⟩ := OwnL.shape hx
    rw [hSN] at hx ⊢
    obtain ⟨Y, ly, cy, rfl⟩ := own_slice hy
    have z5 := hb5.size
    have Ba : Below w5.heap.size w5 ((w5.alloc (.cells #[.int .i64 z.cyl, .int .i64 z.heads, .int .i64 (P : Int), .int .i64 z.size, .slice X N c] 43)).alloc (.cells #[.slice Y ly cy] 47)) := Below.alloc (Below.alloc (Below.refl _ _) (Nat.le_refl _) _) (by simp) _
    have z6 : (((w5.alloc (.cells #[.int .i64 z.cyl, .int .i64 z.heads, .int .i64 (P : Int), .int .i64 z.size, .slice X N c] 43)).alloc (.cells #[.slice Y ly cy] 47))).heap.size = w5.heap.size + 2 := by simp
    have RD : Row ((w5.alloc (.cells #[.int .i64 z.cyl, .int .i64 z.heads, .int .i64 (P : Int), .int .i64 z.size, .slice X N c] 43)).alloc (.cells #[.slice Y ly cy] 47)) w5.heap.size [.int .i64 z.cyl, .int .i64 z.heads, .int .i64 (P : Int), .int .i64 z.size, .slice X N c] := (Row.alloc w5 #[.int .i64 z.cyl, .int .i64 z.heads, .int .i64 (P : Int), .int .i64 z.size, .slice X N c] 43).below (Below.alloc (Below.refl _ _) (Nat.le_refl _) _) (by simp)
    have HX := Lib.hid hX
    have HLW : Hid (LosW w w5.heap.size [.int .i64 z.cyl, .int .i64 z.heads, .int .i64 (P : Int), .int .i64 z.size, .slice X N c] (.slice X N c) (rdS e) (rdM e) ((w5.alloc (.cells #[.int .i64 z.cyl, .int .i64 z.heads, .int .i64 (P : Int), .int .i64 z.size, .slice X N c] 43)).alloc (.cells #[.slice Y ly cy] 47)) (.slice (some ⟨w.heap.size + 1, 0, none⟩) 0 0) 0) := Lib.hid
      ⟨(hb.trans (hb5.mono (by have := hb.size; omega))).trans (Ba.mono (by have := hb.size; omega)), OwnL.below (OwnL.below (OwnL.below HO1 hb4) hb5) Ba, RD, OwnL.below (OwnL.base hx (by omega)) Ba, (fun e0 => by have e1 : some (w.heap.size + 1) = some w5.heap.size := e0; injection e1 with e1; omega), (fun k e0 e2 => by have e1 : some (w.heap.size + 1) = some k := e0; injection e1 with e1; have := (World.ownsRow.lt hx k e2).1; omega), by omega⟩
    have x4 := RD 4 _ rfl
    have HSN := Lib.hid hSN
    clear RE4 HO1 hx hy hX Ba RD hb5 hSN HV HRE HREP
    go_wp2_with (fail)
    clear x4
    go_loopw [7, 4] (fun ii out wx => ∃ q : Nat, q ≤ N ∧ ii = .int .i64 q ∧ Hid (LosW w w5.heap.size [.int .i64 z.cyl, .int .i64 z.heads, .int .i64 (P : Int), .int .i64 z.size, .slice X N c] (.slice X N c) (rdS e) (rdM e) wx out q)) (fun ii _ _ => N - (intOf ii).toNat)
    case atStart => exact ⟨0, by omega, rfl, HLW⟩
    case round =>
      clear HLW
      obtain ⟨q, hq, rfl, HW⟩ := hrel
      have x4 := HW.out.d 4 _ rfl
      by_cases hlt : q < N
      · obtain ⟨s, hs⟩ : ∃ s, (rdS e)[q]? = some s := ⟨(rdS e)[q]'(by rw [HSN.out]; exact hlt), List.getElem?_eq_getElem (by rw [HSN.out]; exact hlt)⟩
        have hsE : rdS e ≠ [] := fun e0 => by rw [e0] at hs; simp at hs
        obtain ⟨g, rfl, _, _⟩ := HX.out.resolve_left hsE
        have c0 := OwnL.at1 Sec.len HW.out.s hs (j := 0) rfl
        have c1 := OwnL.at1 Sec.len HW.out.s hs (j := 1) rfl
        simp only [Nat.add_zero] at c0
        have hM := rdM_at hs
        have hqi : (q : Int) < (N : Int) := by omega
        have HW7 := HW
        cases hst : (s.state == 3)
        · have HW8 := Lib.hid (HW7.out.no (hM.trans hst))
          clear hs hsE hM HW HW7
          go_wp2_with (fail)
          go_roundw
          case rel => exact ⟨q + 1, by omega, by go_num, HW8⟩
          case measure => simp [intOf]; omega
        · have Bc : Below (wr).heap.size wr ((wr).alloc (.cells #[.int .i64 (q : Int)] 2)) := Below.alloc (Below.refl _ _) (Nat.le_refl _) _
          have HW8 := Lib.hid (HW7.out.below Bc)
          have RA := Row.alloc wr #[.int .i64 (q : Int)] 2
          have hfl := flt_len (rdM e) q
          have HM := Lib.hid (hM.trans hst)
          have z8 := HW8.out.bw.size
          clear hs hsE hM HW HW7 Bc
          go_wp2_with (at_builtin; refine stopQ ?_)
          intro _
          refine wpList_app1at icell 1 icell_len _ rfl _ _ _ rfl w.heap.size 2 i0 (.int .i64 0) 8 Tryz.underlying23 hi hz0' hz1' hz2' rfl (by decide) _ (fltN (rdM e) q) rfl HW8.out.l _ 1 (q : Int) rfl RA (by simp [icell, Value.oneCell']) (by omega) (by omega) z8 ?_
          intro v' w12 how hgr hat
          have HW9 := Lib.hid (HW8.out.app z8 hgr how hat HM.out)
          clear HW8 RA how hgr hat c0 c1 x4
          go_wp2_with (fail)
          go_roundw
          case rel => exact ⟨q + 1, by omega, by go_num, HW9⟩
          case measure => simp [intOf]; omega
      · obtain rfl : N = q := by omega
        go_wp2_with (fail)
        go_ret2
        exact ⟨_, rfl, HW.out.l, HW.out.bw⟩
end Go.Proofs.YtfcdienphillnaaGreat
namespace Go.Proofs.YtfcdienphillnaaGreat
set_option linter.unusedVariables false
set_option linter.unusedSimpArgs false
open Go.RowKit
end Go.Proofs.YtfcdienphillnaaGreat
namespace Go.Proofs.YtfcdienphillnaaGreat
set_option linter.unusedVariables false
set_option linter.unusedSimpArgs false
open Go.RowKit
end Go.Proofs.YtfcdienphillnaaGreat
namespace Go.Proofs.YtfcdienphillnaaGreat
set_option linter.unusedVariables false
set_option linter.unusedSimpArgs false
open Go.ChangeShapes Go.WideShapes Go.ChangeAt Go.RowKit
open Go.Joins (open_agg2 open_agg3 open_agg4)

section
variable {H : Type} {enc : TypeId × Value → H} {W : World} {base : Nat} {v : Value} {d : DataW H} {p : List MemPlace}
end
end Go.Proofs.YtfcdienphillnaaGreat
namespace Go.Proofs.YtfcdienphillnaaGreat
set_option linter.unusedVariables false
set_option linter.unusedSimpArgs false
open Go.ChangeShapes Go.WideShapes Go.ChangeAt Go.RowKit
set_option maxRecDepth 20000

section
variable {H : Type} {enc : TypeId × Value → H} {W : World} {base : Nat} {v : Value} {d : DataW H} {p : List MemPlace} {fuel : Nat} {sp : Nat → Bool} {hd : Bool} {b0 : Nat} {cs : List Value} {x : DataW H × List MemPlace}
theorem c_Sector (h : DataW.trod enc Tryz.prog W b0 sp hd fuel 108 cs = some x) : ∃ e : Sec, cs = e.cells ∧ e.data.size ≤ maxLen := by
  obtain ⟨xs, n, rfl, _, hlen, hxs, hfs⟩ := DataW.trod_struct Tryz.underlying108 h
  have hC : Tryz.prog.cellsOf 108 = 2 := by kernel_rfl
  rw [hC] at hlen
  obtain ⟨c0, c1, rfl⟩ : ∃ c0 c1, cs = [c0, c1] := by
    match cs, hlen with
    | [c0, c1], _ => exact ⟨_, _, rfl⟩
  have f0 : DataW.trod enc Tryz.prog W b0 sp hd n 9 (List.take (Tryz.prog.cellsOf 9) (List.drop 0 [c0, c1])) = xs[0]? := hfs 0 _ rfl
  have k0 : Tryz.prog.cellsOf 9 = 1 := by kernel_rfl
  rw [k0] at f0
  simp only [List.drop, List.take] at f0
  obtain ⟨y0, hy0⟩ : ∃ y, xs[0]? = some y := ⟨xs[0]'(by rw [hxs]; decide), List.getElem?_eq_getElem _⟩
  rw [hy0] at f0
  obtain ⟨x0, e0, _, w0⟩ := DataW.trod_string Tryz.underlying9 f0
  have g0 : c0 = .string x0 := by simpa using e0
  have f1 : DataW.trod enc Tryz.prog W b0 sp hd n 2 (List.take (Tryz.prog.cellsOf 2) (List.drop 1 [c0, c1])) = xs[1]? := hfs 1 _ rfl
  have k1 : Tryz.prog.cellsOf 2 = 1 := by kernel_rfl
  rw [k1] at f1
  simp only [List.drop, List.take] at f1
  obtain ⟨y1, hy1⟩ : ∃ y, xs[1]? = some y := ⟨xs[1]'(by rw [hxs]; decide), List.getElem?_eq_getElem _⟩
  rw [hy1] at f1
  obtain ⟨x1, e1, _, w1⟩ := DataW.trod_int Tryz.underlying2 f1
  have g1 : c1 = .int .i64 x1 := by simpa using e1
  subst g0 g1
  exact ⟨⟨x0, x1⟩, rfl, w0⟩

theorem t_SectorS {sl : Nat} {c0 : Value} (hf : DataW.trod enc Tryz.prog W sl sp hd fuel 27 [c0] = some x) : ∃ l : List Sec, RawL Sec.cells 2 W c0 l ∧ ∀ e ∈ l, e.data.size ≤ maxLen := by
  have hC : Tryz.prog.cellsOf 108 = 2 := by kernel_rfl
  rcases Go.Deep.open_slice Tryz.underlying27 hf with ⟨hcs, _⟩ | ⟨a, n, c, m, k, D, Pl, hcs, hb, hl, hm, hmm, _, hx⟩
  · obtain rfl : c0 = .slice none 0 0 := by simpa using hcs
    exact ⟨[], ⟨none, 0, rfl, Nat.zero_le _, .inl rfl⟩, by simp⟩
  · obtain rfl : c0 = .slice (some a) n c := by simpa using hcs
    have hlm : n ≤ m := by rw [hmm]; split <;> omega
    obtain ⟨F, hF⟩ := Go.Deep.choose_lt (α := Sec) (n := n) (p := fun i e => (∀ j u, e.cells[j]? = some u → W.cell? (a.add (i * 2 + j)) = some u) ∧ e.data.size ≤ maxLen) (fun i hi => by
      obtain ⟨cs, h1, h2⟩ := hx i (by omega)
      rw [hC] at h1
      obtain ⟨e, rfl, hv⟩ := c_Sector h2
      obtain ⟨_, _, h3⟩ := World.cells?_some h1
      exact ⟨e, ⟨fun j u hu => by
        have hj : j < 2 := by have := (List.getElem?_eq_some_iff.1 hu).1; rw [Sec.len] at this; exact this
        rw [← hu, ← h3 j hj, Go.Deep.add_add], hv⟩⟩)
    have hlen : ((List.range n).map F).length = n := by simp
    refine ⟨(List.range n).map F, ⟨some a, c, by rw [hlen], by rw [hlen]; omega, ?_⟩, fun e he => by
      obtain ⟨i, hi, rfl⟩ := List.mem_map.1 he
      exact (hF i (List.mem_range.1 hi)).2⟩
    rcases Nat.eq_zero_or_pos n with rfl | h0
    · exact .inl rfl
    · obtain ⟨b, o, spot⟩ := a
      have hc0 := (hF 0 h0).1 0 _ rfl
      have hspot : spot = none := by simpa [Addr.add] using World.cell?_spot hc0
      subst hspot
      have hc00 := World.block_lt_of_cell? W _ hc0
      refine .inr ⟨b, o, rfl, by simpa [Addr.add] using hc00, fun k' e' j u hk hu => ?_⟩
      have hk' : k' < n := by have := (List.getElem?_eq_some_iff.1 hk).1; rw [hlen] at this; exact this
      have he : e' = F k' := by simp [hk'] at hk; exact hk.symm
      subst he
      have := (hF k' hk').1 j u hu
      rw [show o + k' * 2 + j = o + (k' * 2 + j) by omega]
      have e2 : (⟨b, o, none⟩ : Addr).add (k' * 2 + j) = ⟨b, o + (k' * 2 + j), none⟩ := by unfold Addr.add; split <;> simp_all
      rw [e2] at this
      exact this
end
end Go.Proofs.YtfcdienphillnaaGreat
namespace Go.Proofs.YtfcdienphillnaaGreat
set_option linter.unusedVariables false
set_option linter.unusedSimpArgs false
open Go.ChangeShapes Go.WideShapes Go.ChangeAt Go.RowKit
set_option maxRecDepth 20000

section
variable {H : Type} {enc : TypeId × Value → H} {W : World} {base : Nat} {v : Value} {d : DataW H} {p : List MemPlace} {fuel : Nat} {sp : Nat → Bool} {hd : Bool} {b0 : Nat} {cs : List Value} {x : DataW H × List MemPlace}
theorem c_Disc (h : DataW.trod enc Tryz.prog W b0 sp hd fuel 29 cs = some x) : ∃ (e : Dsc) (bv : Value), cs = e.ints ++ [bv] ∧ SecIn W bv e.secs := by
  obtain ⟨xs, n, rfl, _, hlen, hxs, hfs⟩ := DataW.trod_struct Tryz.underlying29 h
  have hC : Tryz.prog.cellsOf 29 = 5 := by kernel_rfl
  rw [hC] at hlen
  obtain ⟨c0, c1, c2, c3, c4, rfl⟩ : ∃ c0 c1 c2 c3 c4, cs = [c0, c1, c2, c3, c4] := by
    match cs, hlen with
    | [c0, c1, c2, c3, c4], _ => exact ⟨_, _, _, _, _, rfl⟩
  have k1 : Tryz.prog.cellsOf 2 = 1 := by kernel_rfl
  have f0 : DataW.trod enc Tryz.prog W b0 sp hd n 2 (List.take (Tryz.prog.cellsOf 2) (List.drop 0 [c0, c1, c2, c3, c4])) = xs[0]? := hfs 0 _ rfl
  rw [k1] at f0
  simp only [List.drop, List.take] at f0
  obtain ⟨y0, hy0⟩ : ∃ y, xs[0]? = some y := ⟨xs[0]'(by rw [hxs]; decide), List.getElem?_eq_getElem _⟩
  rw [hy0] at f0
  obtain ⟨x0, e0, _, _⟩ := DataW.trod_int Tryz.underlying2 f0
  have g0 : c0 = .int .i64 x0 := by simpa using e0
  have f1 : DataW.trod enc Tryz.prog W b0 sp hd n 2 (List.take (Tryz.prog.cellsOf 2) (List.drop 1 [c0, c1, c2, c3, c4])) = xs[1]? := hfs 1 _ rfl
  rw [k1] at f1
  simp only [List.drop, List.take] at f1
  obtain ⟨y1, hy1⟩ : ∃ y, xs[1]? = some y := ⟨xs[1]'(by rw [hxs]; decide), List.getElem?_eq_getElem _⟩
  rw [hy1] at f1
  obtain ⟨x1, e1, _, _⟩ := DataW.trod_int Tryz.underlying2 f1
  have g1 : c1 = .int .i64 x1 := by simpa using e1
  have f2 : DataW.trod enc Tryz.prog W b0 sp hd n 2 (List.take (Tryz.prog.cellsOf 2) (List.drop 2 [c0, c1, c2, c3, c4])) = xs[2]? := hfs 2 _ rfl
  rw [k1] at f2
  simp only [List.drop, List.take] at f2
  obtain ⟨y2, hy2⟩ : ∃ y, xs[2]? = some y := ⟨xs[2]'(by rw [hxs]; decide), List.getElem?_eq_getElem _⟩
  rw [hy2] at f2
  obtain ⟨x2, e2, _, _⟩ := DataW.trod_int Tryz.underlying2 f2
  have g2 : c2 = .int .i64 x2 := by simpa using e2
  have f3 : DataW.trod enc Tryz.prog W b0 sp hd n 2 (List.take (Tryz.prog.cellsOf 2) (List.drop 3 [c0, c1, c2, c3, c4])) = xs[3]? := hfs 3 _ rfl
  rw [k1] at f3
  simp only [List.drop, List.take] at f3
  obtain ⟨y3, hy3⟩ : ∃ y, xs[3]? = some y := ⟨xs[3]'(by rw [hxs]; decide), List.getElem?_eq_getElem _⟩
  rw [hy3] at f3
  obtain ⟨x3, e3, _, _⟩ := DataW.trod_int Tryz.underlying2 f3
  have g3 : c3 = .int .i64 x3 := by simpa using e3
  have f4 : DataW.trod enc Tryz.prog W b0 sp hd n 27 (List.take (Tryz.prog.cellsOf 27) (List.drop 4 [c0, c1, c2, c3, c4])) = xs[4]? := hfs 4 _ rfl
  have k4 : Tryz.prog.cellsOf 27 = 1 := by kernel_rfl
  rw [k4] at f4
  simp only [List.drop, List.take] at f4
  obtain ⟨y4, hy4⟩ : ∃ y, xs[4]? = some y := ⟨xs[4]'(by rw [hxs]; decide), List.getElem?_eq_getElem _⟩
  rw [hy4] at f4
  obtain ⟨l, hl, hs⟩ := t_SectorS f4
  subst g0 g1 g2 g3
  exact ⟨⟨x0, x1, x2, x3, l⟩, c4, rfl, hl, hs⟩
end
end Go.Proofs.YtfcdienphillnaaGreat
namespace Go.Proofs.YtfcdienphillnaaGreat
set_option linter.unusedVariables false
set_option linter.unusedSimpArgs false
open Go.ChangeShapes Go.WideShapes Go.ChangeAt Go.RowKit
set_option maxRecDepth 20000

section
variable {H : Type} {enc : TypeId × Value → H} {W : World} {base : Nat} {v : Value} {d : DataW H} {p : List MemPlace} {fuel : Nat} {sp : Nat → Bool} {hd : Bool} {b0 : Nat} {cs : List Value} {x : DataW H × List MemPlace}
theorem c_Int64 (h : DataW.trod enc Tryz.prog W b0 sp hd fuel 2 cs = some x) : ∃ e : Int, cs = icell e ∧ True := by
  obtain ⟨s, e0, _, w0⟩ := DataW.trod_int Tryz.underlying2 h
  exact ⟨s, by simpa [icell] using e0, trivial⟩
end
end Go.Proofs.YtfcdienphillnaaGreat
namespace Go.Proofs.YtfcdienphillnaaGreat
set_option linter.unusedVariables false
set_option linter.unusedSimpArgs false
open Go.ChangeShapes Go.WideShapes Go.ChangeAt Go.RowKit
set_option maxRecDepth 20000

section
variable {H : Type} {enc : TypeId × Value → H} {W : World} {base : Nat} {v : Value} {d : DataW H} {p : List MemPlace} {fuel : Nat} {sp : Nat → Bool} {hd : Bool} {b0 : Nat} {cs : List Value} {x : DataW H × List MemPlace}
theorem c_String (h : DataW.trod enc Tryz.prog W b0 sp hd fuel 9 cs = some x) : ∃ e : ByteArray, cs = scell e ∧ e.size ≤ maxLen := by
  obtain ⟨s, e0, _, w0⟩ := DataW.trod_string Tryz.underlying9 h
  exact ⟨s, by simpa [scell] using e0, w0⟩
end
end Go.Proofs.YtfcdienphillnaaGreat
namespace Go.Proofs.YtfcdienphillnaaGreat
set_option linter.unusedVariables false
set_option linter.unusedSimpArgs false
open Go.ChangeShapes Go.WideShapes Go.ChangeAt Go.RowKit
set_option maxRecDepth 20000
section
variable {H : Type} {enc : TypeId × Value → H} {W : World} {base : Nat} {v : Value} {d : DataW H} {p : List MemPlace} {fuel : Nat} {sp : Nat → Bool} {hd : Bool} {b0 : Nat} {cs : List Value} {x : DataW H × List MemPlace}
theorem t_Int64S {sl : Nat} {c0 : Value} (hf : DataW.trod enc Tryz.prog W sl sp hd fuel 23 [c0] = some x) : ∃ l : List Int, RawL icell 1 W c0 l := by
  have hC : Tryz.prog.cellsOf 2 = 1 := by kernel_rfl
  rcases Go.Deep.open_slice Tryz.underlying23 hf with ⟨hcs, _⟩ | ⟨a, n, c, m, k, D, Pl, hcs, hb, hl, hm, hmm, _, hx⟩
  · obtain rfl : c0 = .slice none 0 0 := by simpa using hcs
    exact ⟨[], ⟨none, 0, rfl, Nat.zero_le _, .inl rfl⟩⟩
  · obtain rfl : c0 = .slice (some a) n c := by simpa using hcs
    have hlm : n ≤ m := by rw [hmm]; split <;> omega
    obtain ⟨F, hF⟩ := Go.Deep.choose_lt (α := Int) (n := n) (p := fun i e => (∀ j u, (icell e)[j]? = some u → W.cell? (a.add (i * 1 + j)) = some u) ∧ True) (fun i hi => by
      obtain ⟨cs, h1, h2⟩ := hx i (by omega)
      rw [hC] at h1
      obtain ⟨e, rfl, hv⟩ := c_Int64 h2
      obtain ⟨_, _, h3⟩ := World.cells?_some h1
      exact ⟨e, ⟨fun j u hu => by
        have hj : j < 1 := by have := (List.getElem?_eq_some_iff.1 hu).1; rw [icell_len] at this; exact this
        rw [← hu, ← h3 j hj, Go.Deep.add_add], hv⟩⟩)
    have hlen : ((List.range n).map F).length = n := by simp
    refine ⟨(List.range n).map F, ⟨some a, c, by rw [hlen], by rw [hlen]; omega, ?_⟩⟩
    rcases Nat.eq_zero_or_pos n with rfl | h0
    · exact .inl rfl
    · obtain ⟨b, o, spot⟩ := a
      have hc0 := (hF 0 h0).1 0 _ rfl
      have hspot : spot = none := by simpa [Addr.add] using World.cell?_spot hc0
      subst hspot
      have hc00 := World.block_lt_of_cell? W _ hc0
      refine .inr ⟨b, o, rfl, by simpa [Addr.add] using hc00, fun k' e' j u hk hu => ?_⟩
      have hk' : k' < n := by have := (List.getElem?_eq_some_iff.1 hk).1; rw [hlen] at this; exact this
      have he : e' = F k' := by simp [hk'] at hk; exact hk.symm
      subst he
      have := (hF k' hk').1 j u hu
      rw [show o + k' * 1 + j = o + (k' * 1 + j) by omega]
      have e2 : (⟨b, o, none⟩ : Addr).add (k' * 1 + j) = ⟨b, o + (k' * 1 + j), none⟩ := by unfold Addr.add; split <;> simp_all
      rw [e2] at this
      exact this
theorem t_StringS {sl : Nat} {c0 : Value} (hf : DataW.trod enc Tryz.prog W sl sp hd fuel 24 [c0] = some x) : ∃ l : List ByteArray, StrIn W c0 l := by
  have hC : Tryz.prog.cellsOf 9 = 1 := by kernel_rfl
  rcases Go.Deep.open_slice Tryz.underlying24 hf with ⟨hcs, _⟩ | ⟨a, n, c, m, k, D, Pl, hcs, hb, hl, hm, hmm, _, hx⟩
  · obtain rfl : c0 = .slice none 0 0 := by simpa using hcs
    exact ⟨[], ⟨none, 0, rfl, Nat.zero_le _, .inl rfl⟩, by simp⟩
  · obtain rfl : c0 = .slice (some a) n c := by simpa using hcs
    have hlm : n ≤ m := by rw [hmm]; split <;> omega
    obtain ⟨F, hF⟩ := Go.Deep.choose_lt (α := ByteArray) (n := n) (p := fun i e => (∀ j u, (scell e)[j]? = some u → W.cell? (a.add (i * 1 + j)) = some u) ∧ e.size ≤ maxLen) (fun i hi => by
      obtain ⟨cs, h1, h2⟩ := hx i (by omega)
      rw [hC] at h1
      obtain ⟨e, rfl, hv⟩ := c_String h2
      obtain ⟨_, _, h3⟩ := World.cells?_some h1
      exact ⟨e, ⟨fun j u hu => by
        have hj : j < 1 := by have := (List.getElem?_eq_some_iff.1 hu).1; rw [scell_len] at this; exact this
        rw [← hu, ← h3 j hj, Go.Deep.add_add], hv⟩⟩)
    have hlen : ((List.range n).map F).length = n := by simp
    refine ⟨(List.range n).map F, ⟨some a, c, by rw [hlen], by rw [hlen]; omega, ?_⟩, fun e he => by
      obtain ⟨i, hi, rfl⟩ := List.mem_map.1 he
      exact (hF i (List.mem_range.1 hi)).2⟩
    rcases Nat.eq_zero_or_pos n with rfl | h0
    · exact .inl rfl
    · obtain ⟨b, o, spot⟩ := a
      have hc0 := (hF 0 h0).1 0 _ rfl
      have hspot : spot = none := by simpa [Addr.add] using World.cell?_spot hc0
      subst hspot
      have hc00 := World.block_lt_of_cell? W _ hc0
      refine .inr ⟨b, o, rfl, by simpa [Addr.add] using hc00, fun k' e' j u hk hu => ?_⟩
      have hk' : k' < n := by have := (List.getElem?_eq_some_iff.1 hk).1; rw [hlen] at this; exact this
      have he : e' = F k' := by simp [hk'] at hk; exact hk.symm
      subst he
      have := (hF k' hk').1 j u hu
      rw [show o + k' * 1 + j = o + (k' * 1 + j) by omega]
      have e2 : (⟨b, o, none⟩ : Addr).add (k' * 1 + j) = ⟨b, o + (k' * 1 + j), none⟩ := by unfold Addr.add; split <;> simp_all
      rw [e2] at this
      exact this
theorem t_DscS {sl : Nat} {c0 : Value} (hf : DataW.trod enc Tryz.prog W sl sp hd fuel 22 [c0] = some x) : ∃ l : List Dsc, DscIn W c0 l := by
  have hC : Tryz.prog.cellsOf 29 = 5 := by kernel_rfl
  rcases Go.Deep.open_slice Tryz.underlying22 hf with ⟨hcs, _⟩ | ⟨a, n, c, m, k, D, Pl, hcs, hb, hl, hm, hmm, _, hx⟩
  · obtain rfl : c0 = .slice none 0 0 := by simpa using hcs
    exact ⟨[], ⟨none, 0, rfl, Nat.zero_le _, .inl rfl⟩⟩
  · obtain rfl : c0 = .slice (some a) n c := by simpa using hcs
    have hlm : n ≤ m := by rw [hmm]; split <;> omega
    obtain ⟨F, hF⟩ := Go.Deep.choose_lt (α := Dsc) (n := n) (p := fun i e => ∃ bv, SecIn W bv e.secs ∧ ∀ (j : Nat) (u : Value), (e.ints ++ [bv])[j]? = some u → W.cell? (a.add (i * 5 + j)) = some u) (fun i hi => by
      obtain ⟨cs, h1, h2⟩ := hx i (by omega)
      rw [hC] at h1
      obtain ⟨e, bv, rfl, hs⟩ := c_Disc h2
      obtain ⟨_, _, h3⟩ := World.cells?_some h1
      exact ⟨e, bv, hs, fun j u hu => by
        have hj : j < 5 := by have := (List.getElem?_eq_some_iff.1 hu).1; simpa [Dsc.ints] using this
        rw [← hu, ← h3 j hj, Go.Deep.add_add]⟩)
    have hlen : ((List.range n).map F).length = n := by simp
    refine ⟨(List.range n).map F, ⟨some a, c, by rw [hlen], by rw [hlen]; omega, ?_⟩⟩
    rcases Nat.eq_zero_or_pos n with rfl | h0
    · exact .inl rfl
    · obtain ⟨b, o, spot⟩ := a
      obtain ⟨bv0, _, hc0'⟩ := hF 0 h0
      have hc0 := hc0' 0 _ rfl
      have hspot : spot = none := by simpa [Addr.add] using World.cell?_spot hc0
      subst hspot
      have hc00 := World.block_lt_of_cell? W _ hc0
      refine .inr ⟨b, o, rfl, by simpa [Addr.add] using hc00, fun k' e' hk => ?_⟩
      have hk' : k' < n := by have := (List.getElem?_eq_some_iff.1 hk).1; rw [hlen] at this; exact this
      have he : e' = F k' := by simp [hk'] at hk; exact hk.symm
      subst he
      have e2 : ∀ j, (⟨b, o, none⟩ : Addr).add j = ⟨b, o + j, none⟩ := fun j => by unfold Addr.add; split <;> simp_all
      obtain ⟨bv, t0, t1⟩ := hF k' hk'
      refine ⟨bv, t0, fun j u hu => ?_⟩
      have := t1 j u hu
      rw [e2] at this
      rw [Nat.add_assoc]; exact this
theorem o_Evd (e : Value.okWide Tryz.prog W .any base 26 v) (h : DataW.Trod enc Tryz.prog W 0 sp hd 26 v d p) : ∃ (m : Evd) (v0 v1 v2 v3 : Value), v = evV v0 v1 v2 v3 ∧ EvIn W m v0 v1 v2 v3 := by
  obtain ⟨cs, rfl, hsz⟩ := okWide_struct Tryz.underlying26 e
  have hC : Tryz.prog.cellsOf 26 = 4 := by kernel_rfl
  rw [hC] at hsz
  obtain ⟨c0, c1, c2, c3, rfl⟩ : ∃ c0 c1 c2 c3, cs = #[c0, c1, c2, c3] := by
    obtain ⟨l⟩ := cs
    match l, hsz with
    | [c0, c1, c2, c3], _ => exact ⟨_, _, _, _, rfl⟩
  obtain ⟨fuel, hf⟩ := h
  obtain ⟨xs, n, hx, _, hlen, hxs, hfs⟩ := DataW.trod_struct Tryz.underlying26 hf
  have kD : Tryz.prog.cellsOf 22 = 1 := by kernel_rfl
  have kI : Tryz.prog.cellsOf 23 = 1 := by kernel_rfl
  have kS : Tryz.prog.cellsOf 24 = 1 := by kernel_rfl
  have g : ∀ i, i < 4 → ∃ y, xs[i]? = some y := fun i hi => ⟨xs[i]'(by rw [hxs]; exact hi), List.getElem?_eq_getElem _⟩
  obtain ⟨y0, hy0⟩ := g 0 (by omega)
  obtain ⟨y1, hy1⟩ := g 1 (by omega)
  obtain ⟨y2, hy2⟩ := g 2 (by omega)
  obtain ⟨y3, hy3⟩ := g 3 (by omega)
  have f0 : DataW.trod enc Tryz.prog W 0 sp hd n 22 (List.take (Tryz.prog.cellsOf 22) (List.drop 0 [c0, c1, c2, c3])) = xs[0]? := hfs 0 _ rfl
  have f1 : DataW.trod enc Tryz.prog W 0 sp hd n 23 (List.take (Tryz.prog.cellsOf 23) (List.drop 1 [c0, c1, c2, c3])) = xs[1]? := hfs 1 _ rfl
  have f2 : DataW.trod enc Tryz.prog W 0 sp hd n 24 (List.take (Tryz.prog.cellsOf 24) (List.drop 2 [c0, c1, c2, c3])) = xs[2]? := hfs 2 _ rfl
  have f3 : DataW.trod enc Tryz.prog W 0 sp hd n 24 (List.take (Tryz.prog.cellsOf 24) (List.drop 3 [c0, c1, c2, c3])) = xs[3]? := hfs 3 _ rfl
  rw [kD, hy0] at f0
  rw [kI, hy1] at f1
  rw [kS, hy2] at f2
  rw [kS, hy3] at f3
  simp only [List.drop, List.take] at f0 f1 f2 f3
  obtain ⟨l0, h0⟩ := t_DscS f0
  obtain ⟨l1, h1⟩ := t_Int64S f1
  obtain ⟨l2, h2⟩ := t_StringS f2
  obtain ⟨l3, h3⟩ := t_StringS f3
  exact ⟨⟨l0, l1, l2, l3⟩, _, _, _, _, rfl, ⟨h0, h1, h2, h3⟩⟩
end
end Go.Proofs.YtfcdienphillnaaGreat
namespace Go.Proofs.YtfcdienphillnaaGreat
set_option linter.unusedVariables false
set_option linter.unusedSimpArgs false
end Go.Proofs.YtfcdienphillnaaGreat
