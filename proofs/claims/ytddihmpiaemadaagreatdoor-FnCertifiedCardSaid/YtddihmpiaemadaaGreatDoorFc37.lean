/- A disc repaired, the implementation: the walk. -/
import Derived.Test.YtddihmpiaemadaaGreatDoorFc36
import Derived.Test.YtddihmpiaemadaaGreatDoorFc04
namespace Go.Proofs.YtddihmpiaemadaaGreatDoor
set_option linter.unusedVariables false
set_option linter.unusedSimpArgs false
open Go.RowKit

theorem RepW.srt {w wr w' : World} {be b g bd bc K N c : Nat} {E4 D5 : List Value} {vs : Value} {S : List Sec} {X X' : List Src} (h : RepW w be E4 D5 b g bd bc K N c wr vs S X) (o : RepO w be b g bd bc K) (hk : bc < K) (hz : wr.heap.size ≤ w'.heap.size) (hs : OwnL Src.cells 3 49 K w' vs X') (hb : Below K wr w') : RepW w be E4 D5 b g bd bc K N c w' vs S X' := by
  obtain ⟨o0, o1, o2, o3, o3b, o4, o4g, o5, o5g⟩ := o
  have l := h.lt
  have RK : ∀ {k : Nat} {us : List Value}, k < K → Row wr k us → Row w' k us := fun hk hr j u hu => (hb.cell (p := ⟨_, j, none⟩) hk).trans (hr j u hu)
  have FK : ∀ {k : Nat}, k < K → (∀ o, wr.frozen? ⟨k, o, none⟩ = false) → ∀ o, w'.frozen? ⟨k, o, none⟩ = false := fun hk hf o => (hb.frozen (p := ⟨_, o, none⟩) hk).trans (hf o)
  exact ⟨h.bw.trans (hb.mono (by omega)), RK (by omega) h.re, RK (by omega) h.r2, FK (by omega) h.f2, RK (by omega) h.r3, FK (by omega) h.f3, RK (by omega) h.rd, RK (by omega) h.rc, FK (by omega) h.fc, OwnL.below' h.sec hb (fun k hk => by have e1 : some g = some k := hk; injection e1 with e1; omega), hs, h.hne, by omega⟩
set_option maxRecDepth 20000 in
set_option maxHeartbeats 8000000 in
theorem rep_i (B : Nat) (e : Evd) (va vb vc vd : Value) (z : Dsc) (P m T N : Nat) (F : EvF e z P m T) (hN : T * P = N) (w : World) (h : EvOwn B w e va vb vc vd) :
    Calls Tryz.prog 18 #[evV va vb vc vd] w fun r w' => ∃ x y K, r = .returned (.tuple #[.agg #[.int .i64 z.cyl, .int .i64 z.heads, .int .i64 (P : Int), .int .i64 z.size, x], .agg #[y]]) ∧ SecOwn w.heap.size w' x (rpS e (zSec m) P N N N) ∧ (∀ g, x.ownBlock = some g → g < K) ∧ w.heap.size ≤ K ∧ OwnL Src.cells 3 49 K w' y (rpY e (zSec m) P N) ∧ Below w.heap.size w w' := by
  obtain ⟨r0, ri, rz0, rz1, rz2⟩ := info_parts src_info
  have H0 := Lib.hid h
  have HF := Lib.hid F
  have hP1 := F.p1
  have hP8 := F.p8
  have hT1 := F.t1
  have hT16 := F.t16
  have hm2 := F.m2
  have hN128 : N ≤ 128 := by rw [← hN]; exact Nat.mul_le_mul hT16 hP8
  have hN1 : 1 ≤ N := by rw [← hN]; exact Nat.mul_le_mul hT1 hP1
  have HT := Lib.hid F.tt
  have HZ := Lib.hid F.per
  have hds := h.ds
  have hz0 := F.z0
  obtain ⟨A, n, B', kk, C, i, D, j, rfl, rfl, rfl, rfl⟩ := h.shape
  obtain ⟨A', c', e', hA⟩ := hds
  injection e' with e1 _ e2
  subst e1 e2
  have hl1 : 1 ≤ e.ds.length := F.d1
  obtain ⟨gd, rfl, _, hgd, hcd⟩ := hA.resolve_left (by intro h0; rw [h0] at hl1; simp at hl1)
  obtain ⟨bv, o1, o2⟩ := hcd 0 z hz0
  obtain ⟨X, cz, rfl, hX⟩ := OwnL.shape o1
  obtain ⟨gz, rfl, _, _⟩ := hX.resolve_left (by intro h0; have hzl : z.secs.length = N := F.secs.trans hN; rw [h0] at hzl; simp at hzl; omega)
  have HSZ : Hid (szN z.size = m) := Lib.hid F.siz.symm
  obtain ⟨RE, R2, R3, HBZ, zz⟩ := boxes3 w #[.slice (some ⟨gd, 0, none⟩) e.ds.length n, .slice B' e.cr.length kk, .slice C e.p.length i, .slice D e.q.length j] #[.int .i64 0, .int .i64 0, .int .i64 0, .int .i64 0, .slice none 0 0] #[.slice none 0 0] 28 32 35
  have s1 : (w.alloc (.cells #[.slice (some ⟨gd, 0, none⟩) e.ds.length n, .slice B' e.cr.length kk, .slice C e.p.length i, .slice D e.q.length j] 28)).heap.size = w.heap.size + 1 := by simp
  have s2 : ((w.alloc (.cells #[.slice (some ⟨gd, 0, none⟩) e.ds.length n, .slice B' e.cr.length kk, .slice C e.p.length i, .slice D e.q.length j] 28)).alloc (.cells #[.int .i64 0, .int .i64 0, .int .i64 0, .int .i64 0, .slice none 0 0] 32)).heap.size = w.heap.size + 2 := by simp
  have F2 : ∀ o, ((((w.alloc (.cells #[.slice (some ⟨gd, 0, none⟩) e.ds.length n, .slice B' e.cr.length kk, .slice C e.p.length i, .slice D e.q.length j] 28)).alloc (.cells #[.int .i64 0, .int .i64 0, .int .i64 0, .int .i64 0, .slice none 0 0] 32)).alloc (.cells #[.slice none 0 0] 35))).frozen? ⟨w.heap.size + 1, o, none⟩ = false := fun o => frozen_below (fun o => by rw [← s1]; exact frozen_alloc (w.alloc (.cells #[.slice (some ⟨gd, 0, none⟩) e.ds.length n, .slice B' e.cr.length kk, .slice C e.p.length i, .slice D e.q.length j] 28)) #[.int .i64 0, .int .i64 0, .int .i64 0, .int .i64 0, .slice none 0 0] 32 o) (Below.alloc (Below.refl _ _) (Nat.le_refl _) _) (by omega) o
  have F3 : ∀ o, ((((w.alloc (.cells #[.slice (some ⟨gd, 0, none⟩) e.ds.length n, .slice B' e.cr.length kk, .slice C e.p.length i, .slice D e.q.length j] 28)).alloc (.cells #[.int .i64 0, .int .i64 0, .int .i64 0, .int .i64 0, .slice none 0 0] 32)).alloc (.cells #[.slice none 0 0] 35))).frozen? ⟨w.heap.size + 2, o, none⟩ = false := fun o => by rw [← s2]; exact frozen_alloc _ _ _ o
  have e0 := RE 0 _ rfl
  have q0 : ((((w.alloc (.cells #[.slice (some ⟨gd, 0, none⟩) e.ds.length n, .slice B' e.cr.length kk, .slice C e.p.length i, .slice D e.q.length j] 28)).alloc (.cells #[.int .i64 0, .int .i64 0, .int .i64 0, .int .i64 0, .slice none 0 0] 32)).alloc (.cells #[.slice none 0 0] 35))).cell? ⟨gd, 0, none⟩ = some (.int .i64 z.cyl) := (HBZ.cell (p := ⟨gd, 0, none⟩) hgd).trans (o2 0 _ rfl)
  have q1 : ((((w.alloc (.cells #[.slice (some ⟨gd, 0, none⟩) e.ds.length n, .slice B' e.cr.length kk, .slice C e.p.length i, .slice D e.q.length j] 28)).alloc (.cells #[.int .i64 0, .int .i64 0, .int .i64 0, .int .i64 0, .slice none 0 0] 32)).alloc (.cells #[.slice none 0 0] 35))).cell? ⟨gd, 1, none⟩ = some (.int .i64 z.heads) := (HBZ.cell (p := ⟨gd, 1, none⟩) hgd).trans (o2 1 _ rfl)
  have q2 : ((((w.alloc (.cells #[.slice (some ⟨gd, 0, none⟩) e.ds.length n, .slice B' e.cr.length kk, .slice C e.p.length i, .slice D e.q.length j] 28)).alloc (.cells #[.int .i64 0, .int .i64 0, .int .i64 0, .int .i64 0, .slice none 0 0] 32)).alloc (.cells #[.slice none 0 0] 35))).cell? ⟨gd, 2, none⟩ = some (.int .i64 (P : Int)) := by rw [← HZ.out]; exact (HBZ.cell (p := ⟨gd, 2, none⟩) hgd).trans (o2 2 _ rfl)
  have q3 : ((((w.alloc (.cells #[.slice (some ⟨gd, 0, none⟩) e.ds.length n, .slice B' e.cr.length kk, .slice C e.p.length i, .slice D e.q.length j] 28)).alloc (.cells #[.int .i64 0, .int .i64 0, .int .i64 0, .int .i64 0, .slice none 0 0] 32)).alloc (.cells #[.slice none 0 0] 35))).cell? ⟨gd, 3, none⟩ = some (.int .i64 z.size) := (HBZ.cell (p := ⟨gd, 3, none⟩) hgd).trans (o2 3 _ rfl)
  have q4 : ((((w.alloc (.cells #[.slice (some ⟨gd, 0, none⟩) e.ds.length n, .slice B' e.cr.length kk, .slice C e.p.length i, .slice D e.q.length j] 28)).alloc (.cells #[.int .i64 0, .int .i64 0, .int .i64 0, .int .i64 0, .slice none 0 0] 32)).alloc (.cells #[.slice none 0 0] 35))).cell? ⟨gd, 4, none⟩ = some (.slice (some ⟨gz, 0, none⟩) z.secs.length cz) := (HBZ.cell (p := ⟨gd, 4, none⟩) hgd).trans (o2 4 _ rfl)
  have hl1' : (0 : Int) < (e.ds.length : Int) := by omega
  have hb4 : Below ((((w.alloc (.cells #[.slice (some ⟨gd, 0, none⟩) e.ds.length n, .slice B' e.cr.length kk, .slice C e.p.length i, .slice D e.q.length j] 28)).alloc (.cells #[.int .i64 0, .int .i64 0, .int .i64 0, .int .i64 0, .slice none 0 0] 32)).alloc (.cells #[.slice none 0 0] 35))).heap.size (((w.alloc (.cells #[.slice (some ⟨gd, 0, none⟩) e.ds.length n, .slice B' e.cr.length kk, .slice C e.p.length i, .slice D e.q.length j] 28)).alloc (.cells #[.int .i64 0, .int .i64 0, .int .i64 0, .int .i64 0, .slice none 0 0] 32)).alloc (.cells #[.slice none 0 0] 35)) ((((w.alloc (.cells #[.slice (some ⟨gd, 0, none⟩) e.ds.length n, .slice B' e.cr.length kk, .slice C e.p.length i, .slice D e.q.length j] 28)).alloc (.cells #[.int .i64 0, .int .i64 0, .int .i64 0, .int .i64 0, .slice none 0 0] 32)).alloc (.cells #[.slice none 0 0] 35)).alloc (.cells #[.int .i64 z.cyl, .int .i64 z.heads, .int .i64 (P : Int), .int .i64 z.size, .slice (some ⟨gz, 0, none⟩) z.secs.length cz] 32)) := Below.alloc (Below.refl _ _) (Nat.le_refl _) _
  have z4 : (((((w.alloc (.cells #[.slice (some ⟨gd, 0, none⟩) e.ds.length n, .slice B' e.cr.length kk, .slice C e.p.length i, .slice D e.q.length j] 28)).alloc (.cells #[.int .i64 0, .int .i64 0, .int .i64 0, .int .i64 0, .slice none 0 0] 32)).alloc (.cells #[.slice none 0 0] 35)).alloc (.cells #[.int .i64 z.cyl, .int .i64 z.heads, .int .i64 (P : Int), .int .i64 z.size, .slice (some ⟨gz, 0, none⟩) z.secs.length cz] 32))).heap.size = w.heap.size + 4 := by simp
  have HR4 : Row ((((w.alloc (.cells #[.slice (some ⟨gd, 0, none⟩) e.ds.length n, .slice B' e.cr.length kk, .slice C e.p.length i, .slice D e.q.length j] 28)).alloc (.cells #[.int .i64 0, .int .i64 0, .int .i64 0, .int .i64 0, .slice none 0 0] 32)).alloc (.cells #[.slice none 0 0] 35)).alloc (.cells #[.int .i64 z.cyl, .int .i64 z.heads, .int .i64 (P : Int), .int .i64 z.size, .slice (some ⟨gz, 0, none⟩) z.secs.length cz] 32)) (w.heap.size + 3) [.int .i64 z.cyl, .int .i64 z.heads, .int .i64 (P : Int), .int .i64 z.size, .slice (some ⟨gz, 0, none⟩) z.secs.length cz] := by
    have := Row.alloc (((w.alloc (.cells #[.slice (some ⟨gd, 0, none⟩) e.ds.length n, .slice B' e.cr.length kk, .slice C e.p.length i, .slice D e.q.length j] 28)).alloc (.cells #[.int .i64 0, .int .i64 0, .int .i64 0, .int .i64 0, .slice none 0 0] 32)).alloc (.cells #[.slice none 0 0] 35)) #[.int .i64 z.cyl, .int .i64 z.heads, .int .i64 (P : Int), .int .i64 z.size, .slice (some ⟨gz, 0, none⟩) z.secs.length cz] 32
    rw [zz] at this; exact this
  have RE4 := Lib.hid (RE.below hb4 (by omega))
  have R24 := Lib.hid (R2.below hb4 (by omega))
  have R34 := Lib.hid (R3.below hb4 (by omega))
  have F24 := Lib.hid (frozen_below F2 hb4 (by omega))
  have F34 := Lib.hid (frozen_below F3 hb4 (by omega))
  have HB4 := Lib.hid (HBZ.trans (hb4.mono (by omega)))
  have t0 := HR4 0 _ rfl
  have t1 := HR4 1 _ rfl
  have t2 := HR4 2 _ rfl
  have t3 := HR4 3 _ rfl
  have hgeo : 0 ≤ z.size ∧ z.size ≤ 2 := by obtain ⟨_, _, _, g4⟩ := geo_parts (disc_geo F.zok); exact g4
  have HNW := Lib.hid (fun w' => new_i z.cyl z.heads (P : Int) z.size T N w' HT.out.symm (by rw [← hN]; rfl) (by omega) (by omega) hgeo)
  rw [HSZ.out] at HNW
  have HTi := Lib.hid hN
  clear RE R2 R3 F2 F3 hb4 HR4 HBZ o1 o2 hcd hA hX h F hz0 hN
  go_enter Tryz.func18, Tryz.ntmps18
  go_wp2_with (fail)
  generalize hw4 : ((((w.alloc (.cells #[.slice (some ⟨gd, 0, none⟩) e.ds.length n, .slice B' e.cr.length kk, .slice C e.p.length i, .slice D e.q.length j] 28)).alloc (.cells #[.int .i64 0, .int .i64 0, .int .i64 0, .int .i64 0, .slice none 0 0] 32)).alloc (.cells #[.slice none 0 0] 35)).alloc (.cells #[.int .i64 z.cyl, .int .i64 z.heads, .int .i64 (P : Int), .int .i64 z.size, .slice (some ⟨gz, 0, none⟩) z.secs.length cz] 32)) = w4 at *
  clear hw4
  refine (HNW.out w4).mono ?_; rintro r w5 ⟨x5, rfl, ho5, hb5⟩
  clear e0 q0 q1 q2 q3 q4 t0 t1 t2 t3 HNW
  obtain ⟨X5, c, rfl, hX5⟩ := OwnL.shape ho5
  rw [List.length_replicate] at ho5 ⊢
  obtain ⟨g, rfl, hg0, hg⟩ := hX5.resolve_left (by intro h0; have := congrArg List.length h0; simp at this; omega)
  have hcap := own_cap ho5
  have z5 := hb5.size
  have HB5 := Lib.hid (HB4.out.trans (hb5.mono (by omega)))
  obtain ⟨b1, b2, b3, b4, b5⟩ := boxes2 w5 #[.int .i64 z.cyl, .int .i64 z.heads, .int .i64 (P : Int), .int .i64 z.size, .slice (some ⟨g, 0, none⟩) N c] #[.slice none 0 0] 32 35
  have hbe : Below w4.heap.size w4 ((w5.alloc (.cells #[.int .i64 z.cyl, .int .i64 z.heads, .int .i64 (P : Int), .int .i64 z.size, .slice (some ⟨g, 0, none⟩) N c] 32)).alloc (.cells #[.slice none 0 0] 35)) := hb5.trans (b4.mono z5)
  have HORD : Hid (RepO w w.heap.size (w.heap.size + 1) g w5.heap.size (w5.heap.size + 1) (w5.heap.size + 2)) := Lib.hid ⟨by omega, by omega, by omega, by omega, by omega, by omega, by omega, by omega, by omega⟩
  have HRW : Hid (RepW w w.heap.size [.slice (some ⟨gd, 0, none⟩) e.ds.length n, .slice B' e.cr.length kk, .slice C e.p.length i, .slice D e.q.length j] [.int .i64 z.cyl, .int .i64 z.heads, .int .i64 (P : Int), .int .i64 z.size, .slice (some ⟨g, 0, none⟩) N c] (w.heap.size + 1) g w5.heap.size (w5.heap.size + 1) (w5.heap.size + 2) N c ((w5.alloc (.cells #[.int .i64 z.cyl, .int .i64 z.heads, .int .i64 (P : Int), .int .i64 z.size, .slice (some ⟨g, 0, none⟩) N c] 32)).alloc (.cells #[.slice none 0 0] 35)) (.slice none 0 0) (rpS e (zSec m) P N 0 0) (rpX e 0)) := Lib.hid
    ⟨HB4.out.trans (hbe.mono (by omega)), RE4.out.below hbe (by omega), R24.out.below hbe (by omega), frozen_below F24.out hbe (by omega), R34.out.below hbe (by omega), frozen_below F34.out hbe (by omega), b1, b2, b3, by rw [rpS_zero]; exact OwnL.below (OwnL.base ho5 (by omega)) (b4.mono (Nat.le_refl _)), OwnL.of_nil, (fun e0 => nomatch e0), by omega⟩
  have d4 := HRW.out.rd 4 _ rfl
  clear hbe b1 b2 b3 b4 ho5 hb5 hX5 RE4 R24 R34 F24 F34 HB4 HB5
  obtain ⟨bd, hbd⟩ : ∃ bd, w5.heap.size = bd := ⟨_, rfl⟩
  rw [hbd] at HORD HRW d4
  have hb5' : (((w5.alloc (.cells #[.int .i64 z.cyl, .int .i64 z.heads, .int .i64 (P : Int), .int .i64 z.size, .slice (some ⟨g, 0, none⟩) N c] 32)).alloc (.cells #[.slice none 0 0] 35))).heap.size = bd + 2 := by rw [b5, hbd]
  have HSS := Lib.hid (fun (w' : World) => size_sec (some ⟨g, 0, none⟩) N c w' (by omega))
  go_wp2_with (fail)
  generalize hw6 : ((w5.alloc (.cells #[.int .i64 z.cyl, .int .i64 z.heads, .int .i64 (P : Int), .int .i64 z.size, .slice (some ⟨g, 0, none⟩) N c] 32)).alloc (.cells #[.slice none 0 0] 35)) = w6 at *
  clear hw6 b5 hbd
  refine (HSS.out w6).mono ?_; rintro r w7 ⟨rfl, rfl⟩
  clear d4 HSS
  have HSRC := Lib.hid (fun (k : Nat) (w' : World) (hb : Below w.heap.size w w') (hk : k < N) => fir_i B e _ _ _ _ k w' (H0.out.below hb) HF.out.d5 (fun d hd => by rw [HF.out.dss d hd, HTi.out]; exact hk) (by rw [HF.out.crl, HTi.out]; exact hk) (by rw [HF.out.crl, HTi.out]; omega) m HF.out.dm (by omega))
  go_wp2_with (fail)
  go_loopw [28] (fun ii wx => ∃ (q : Nat) (vs : Value), q ≤ N ∧ ii = .int .i64 q ∧ Hid (RepW w w.heap.size [.slice (some ⟨gd, 0, none⟩) e.ds.length n, .slice B' e.cr.length kk, .slice C e.p.length i, .slice D e.q.length j] [.int .i64 z.cyl, .int .i64 z.heads, .int .i64 (P : Int), .int .i64 z.size, .slice (some ⟨g, 0, none⟩) N c] (w.heap.size + 1) g bd (bd + 1) (bd + 2) N c wx vs (rpS e (zSec m) P N 0 q) (rpX e q))) (fun ii _ => N - (intOf ii).toNat)
  case atStart => exact ⟨0, .slice none 0 0, by omega, rfl, HRW⟩
  case round =>
    clear HRW
    obtain ⟨q, vs, hq, rfl, HW⟩ := hrel
    have hlt0 := HW.out.lt
    by_cases hlt : q < N
    · have re := HW.out.re
      have l0 := re 0 _ rfl
      have l1 := re 1 _ rfl
      have l2 := re 2 _ rfl
      have l3 := re 3 _ rfl
      obtain ⟨src, sd, ok, hfe⟩ : ∃ src sd ok, firE e q = (src, sd, ok) := ⟨_, _, _, rfl⟩
      have hS0 := HSRC.out q wr HW.out.bw hlt
      have hok : rpOk e q = ok := by unfold rpOk; rw [hfe]
      have HY1 := Lib.hid (fun hh : ok = true => rpS_yes (e := e) (z := zSec m) (P := P) (N := N) (u := 0) (j := q) (Nat.zero_le _) hlt (hok.trans hh))
      have HY2 := Lib.hid (fun hh : ok = true => (rpX_yes (e := e) (n := q) (Lib.hid rfl) (hok.trans hh)).out)
      have HN1 := Lib.hid (fun hh : ok = false => rpS_no (e := e) (z := zSec m) (P := P) (N := N) (u := 0) (j := q) (Nat.zero_le _) (hok.trans hh))
      have HN2 := Lib.hid (fun hh : ok = false => (rpX_no (e := e) (n := q) (Lib.hid rfl) (hok.trans hh)).out)
      rw [hfe] at hS0 HY1 HY2
      obtain ⟨kd, sc, dm⟩ := src
      have HS1 : Hid (Calls Tryz.prog 46 #[.agg #[.slice (some ⟨gd, 0, none⟩) e.ds.length n, .slice B' e.cr.length kk, .slice C e.p.length i, .slice D e.q.length j], .int .i64 q] wr fun r w' => r = .returned (.tuple #[.agg #[.int .i64 kd, .int .i64 sc, .int .i64 dm], .string sd, .bool ok]) ∧ Below wr.heap.size wr w') := Lib.hid hS0
      clear re hS0 hfe hok HSRC
      go_wp2_with (fail)
      refine HS1.out.mono ?_; rintro r w8 ⟨rfl, hb8⟩
      have HW8 := Lib.hid (HW.out.below HORD.out hb8)
      have hz8 := hb8.size
      have hba : Below w8.heap.size w8 (w8.alloc (.cells #[.int .i64 kd, .int .i64 sc, .int .i64 dm] 49)) := Below.alloc (Below.refl _ _) (Nat.le_refl _) _
      have HW9 := Lib.hid (HW8.out.below HORD.out hba)
      clear l0 l1 l2 l3 HS1 hb8 HW
      cases ok
      · rw [HN1.out rfl, HN2.out rfl] at HW9
        go_wp2_with (fail)
        go_roundw
        case rel => exact ⟨q + 1, vs, by omega, by go_num, HW9⟩
        case measure => simp [intOf]; omega
      · have HW10 := Lib.hid (HW9.out.setS HORD.out rpS_len hlt (rpG sd))
        obtain ⟨q0, q1, fz⟩ := secs_at HW9.out.sec rpS_len (rpS_at hlt)
        have d4 := HW9.out.rd 4 _ rfl
        have x0 : ((((w8.alloc (.cells #[.int .i64 kd, .int .i64 sc, .int .i64 dm] 49)).setCell ⟨g, q * 2, none⟩ (.string sd)).setCell ⟨g, q * 2 + 1, none⟩ (.int .i64 1))).cell? ⟨bd + 1, 0, none⟩ = some vs := HW10.out.rc 0 _ rfl
        have hne : w8.heap.size ≠ g := by have := HORD.out.o4g; have := HW8.out.lt; omega
        have RB : Row (((w8.alloc (.cells #[.int .i64 kd, .int .i64 sc, .int .i64 dm] 49)).setCell ⟨g, q * 2, none⟩ (.string sd)).setCell ⟨g, q * 2 + 1, none⟩ (.int .i64 1)) w8.heap.size [.int .i64 kd, .int .i64 sc, .int .i64 dm] := ((Row.alloc w8 #[.int .i64 kd, .int .i64 sc, .int .i64 dm] 49).set_other _ hne).set_other _ hne
        have y0 := RB 0 _ rfl
        have y1 := RB 1 _ rfl
        have y2 := RB 2 _ rfl
        have hgi : (q : Int) < (N : Int) := by omega
        clear HN1 HN2 RB hba
        go_wp2_with (at_builtin; refine stopQ ?_)
        intro _
        have hbb : Below ((((w8.alloc (.cells #[.int .i64 kd, .int .i64 sc, .int .i64 dm] 49)).setCell ⟨g, q * 2, none⟩ (.string sd)).setCell ⟨g, q * 2 + 1, none⟩ (.int .i64 1))).heap.size (((w8.alloc (.cells #[.int .i64 kd, .int .i64 sc, .int .i64 dm] 49)).setCell ⟨g, q * 2, none⟩ (.string sd)).setCell ⟨g, q * 2 + 1, none⟩ (.int .i64 1)) (((((w8.alloc (.cells #[.int .i64 kd, .int .i64 sc, .int .i64 dm] 49)).setCell ⟨g, q * 2, none⟩ (.string sd)).setCell ⟨g, q * 2 + 1, none⟩ (.int .i64 1))).alloc (.cells #[.int .i64 kd, .int .i64 sc, .int .i64 dm] 49)) := Below.alloc (Below.refl _ _) (Nat.le_refl _) _
        have HW11 := Lib.hid (HW10.out.below HORD.out hbb)
        have hl11 := HW11.out.lt
        have hxl : (rpX e q).length ≤ q := rpX_len q
        have hz10 : ((((w8.alloc (.cells #[.int .i64 kd, .int .i64 sc, .int .i64 dm] 49)).setCell ⟨g, q * 2, none⟩ (.string sd)).setCell ⟨g, q * 2 + 1, none⟩ (.int .i64 1))).heap.size = w8.heap.size + 1 := by simp [setCell_size]
        have RA := Row.alloc (((w8.alloc (.cells #[.int .i64 kd, .int .i64 sc, .int .i64 dm] 49)).setCell ⟨g, q * 2, none⟩ (.string sd)).setCell ⟨g, q * 2 + 1, none⟩ (.int .i64 1)) #[.int .i64 kd, .int .i64 sc, .int .i64 dm] 49
        rw [hz10] at RA
        refine wpList_app1at Src.cells 3 Src.len _ rfl _ _ _ rfl (bd + 2) 49 r0 (.agg #[.int .i64 0, .int .i64 0, .int .i64 0]) 24 Tryz.underlying33 ri rz0 rz1 rz2 rfl (by decide) vs (rpX e q) rfl HW11.out.src _ 1 ⟨kd, sc, dm⟩ rfl RA (by simp [Src.cells, Value.oneCell']) (by omega) (by omega) hl11 ?_
        intro v' w12 how hgr hat
        obtain ⟨Av, cv, hv, _⟩ := OwnL.shape how
        obtain ⟨lv, hlv⟩ : ∃ lv, (rpX e q ++ [(⟨kd, sc, dm⟩ : Src)]).length = lv := ⟨_, rfl⟩
        rw [hlv] at hv
        subst hv
        clear hlv
        have hnv : (Value.slice Av lv cv).ownBlock ≠ some (bd + 1) := by
          rcases hat with e0 | e0
          · rw [e0]; exact HW11.out.hne
          · rw [e0]; intro e1; injection e1 with e1; omega
        rw [HY2.out (by first | rfl | trivial)] at how
        have HW12 := HW11.out.app HORD.out hgr how hnv
        rw [HY1.out (by first | rfl | trivial)] at HW12
        have x12 := grown_cell hgr (by omega) HW11.out.hne (HW11.out.rc 0 _ rfl)
        have f12 := grown_frozen hgr (by omega) HW11.out.hne HW11.out.fc 0
        have HWN := Lib.hid HW12
        clear q0 q1 fz d4 x0 y0 y1 y2 RA HW12 how hgr hat HW11 HW10 HW9 HW8 HY1 HY2 hbb hl11
        go_wp2_with (fail)
        go_roundw
        case rel => exact ⟨q + 1, .slice Av lv cv, by omega, by go_num, HWN⟩
        case measure => simp [intOf]; omega
    · obtain rfl : N = q := by omega
      have d0 := HW.out.rd 0 _ rfl
      have d1 := HW.out.rd 1 _ rfl
      have hTm : z.cyl * z.heads = (T : Int) := HT.out.symm
      have hw1 : IntKind.i64.wrap (T : Int) = (T : Int) := by rw [IntKind.wrap_i64]; omega
      clear HSRC
      go_wp2_with (fail)
      clear d0 d1
      go_loopw [57] (fun ii wx => ∃ (t : Nat) (vs : Value), t ≤ T ∧ ii = .int .i64 t ∧ Hid (RepW w w.heap.size [.slice (some ⟨gd, 0, none⟩) e.ds.length n, .slice B' e.cr.length kk, .slice C e.p.length i, .slice D e.q.length j] [.int .i64 z.cyl, .int .i64 z.heads, .int .i64 (P : Int), .int .i64 z.size, .slice (some ⟨g, 0, none⟩) N c] (w.heap.size + 1) g bd (bd + 1) (bd + 2) N c wx vs (rpS e (zSec m) P N (t * P) N) (rpXT e (zSec m) P N t))) (fun ii _ => T - (intOf ii).toNat)
      case atStart => exact ⟨0, vs, by omega, rfl, Lib.hid (by rw [Nat.zero_mul, rpXT_zero]; exact HW.out)⟩
      case round =>
        clear HW hlt0
        obtain ⟨t, vt, ht, rfl, HW⟩ := hrel
        have hlt0 := HW.out.lt
        by_cases hltt : t < T
        · have hoN : t * P + P ≤ N := by
            have := Nat.mul_le_mul_right P (show t + 1 ≤ T by omega)
            rw [Nat.add_mul, Nat.one_mul, HTi.out] at this
            exact this
          obtain ⟨pt, qt, hpt, hqt, hps, hqs⟩ := ev_pq HF.out hltt
          have HWd := Lib.hid (HW.out.below HORD.out (Below.refl wr.heap.size wr).drew)
          have hA := add_i B w.heap.size e _ _ _ _ ⟨z.cyl, z.heads, (P : Int), z.size, rpS e (zSec m) P N (t * P) N⟩ (.slice (some ⟨g, 0, none⟩) N c) t P (t * P) wr.drew (H0.out.below HWd.out.bw) HWd.out.sec rfl hP1 (by omega) rfl (by rw [rpS_len]; exact hoN) (by rw [rpS_len]; omega) (by omega) (by rw [rpS_len, HF.out.crl, HTi.out]) pt qt hpt hqt hps hqs
          dsimp only at hA
          rw [rpS_lost (z := zSec m) rfl hoN hoN, rpS_add hoN hoN] at hA
          have HADD : Hid (Calls Tryz.prog 47 #[.agg #[.slice (some ⟨gd, 0, none⟩) e.ds.length n, .slice B' e.cr.length kk, .slice C e.p.length i, .slice D e.q.length j], .agg #[.int .i64 z.cyl, .int .i64 z.heads, .int .i64 (P : Int), .int .i64 z.size, .slice (some ⟨g, 0, none⟩) N c], .int .i64 t] wr.drew fun r w' => ∃ v', r = .returned v' ∧ OwnL Src.cells 3 49 wr.heap.size w' v' (rpPS e (zSec m) P t) ∧ SecOwn w.heap.size w' (.slice (some ⟨g, 0, none⟩) N c) (rpS e (zSec m) P N (t * P + P) N) ∧ wr.drew.grownBy w' (some g)) := Lib.hid hA
          have HNX := Lib.hid (rpXT_next (z := zSec m) (P := P) (N := N) (e := e) (t := t) (Lib.hid rfl)).out
          have re := HW.out.re
          have rd := HW.out.rd
          have l0 := re 0 _ rfl
          have l1 := re 1 _ rfl
          have l2 := re 2 _ rfl
          have l3 := re 3 _ rfl
          have d0 := rd 0 _ rfl
          have d1 := rd 1 _ rfl
          have d2 := rd 2 _ rfl
          have d3 := rd 3 _ rfl
          have d4 := rd 4 _ rfl
          have x0 := HW.out.rc 0 _ rfl
          have hone : ∀ b : Src, ∀ u ∈ Src.cells b, u.oneCell' = true := by intro b; simp [Src.cells, Value.oneCell']
          have hlen : (rpXT e (zSec m) P N t).length + (rpPS e (zSec m) P t).length ≤ 16777216 := by
            have h1 := rpXT_len (e := e) (z := zSec m) (P := P) (N := N) t
            have h2 := rpPS_len (e := e) (z := zSec m) (P := P) t
            omega
          clear re rd hA hpt hqt
          go_wp2_with (fail)
          go_region_law (first
            | (refine step_appAll Src.cells 3 Src.len _ (by rfl) _ _ _ (by rfl) (bd + 2) wr.heap.size 49 49 r0 (.agg #[.int .i64 0, .int .i64 0, .int .i64 0]) 24 Tryz.underlying33 ri rz0 rz1 rz2 rfl (by decide) vt (rpXT e (zSec m) P N t) (by rfl) HW7.out.src v7 (rpPS e (zSec m) P t) (by rfl) HO7.out hone hlen (by decide) hl7 ?_; intro v8 w8 how8 hg8 hat8; have hnv8 : v8.ownBlock ≠ some (bd + 1) := nob_at hat8 HW7.out.hne HW7.out.lt; obtain ⟨A8, n8, k8, rfl⟩ := own_slice how8; have HW8 := Lib.hid (HW7.out.app HORD.out hg8 how8 hnv8); have x8 := grown_cell hg8 HW7.out.lt HW7.out.hne (HW7.out.rc 0 _ rfl); have f8 := grown_frozen hg8 HW7.out.lt HW7.out.hne HW7.out.fc 0; clear how8 hg8 hat8)
            | (go_simp; (go_at_call 47; refine HADD.out.mono ?_; rintro r w7 ⟨v7, rfl, ho7, hs7, hg7⟩; have HO7 := Lib.hid ho7; have HW7 := Lib.hid (HWd.out.grown HORD.out hg7 hs7); have hl7 := HW7.out.lt; have x7 := HW7.out.rc 0 _ rfl; clear ho7 hs7 hg7; dsimp only)))
          all_goals rw [HNX, tk_next] at HW8
          all_goals clear l0 l1 l2 l3 d0 d1 d2 d3 d4 x0 x7 x8 f8 HW7 HO7 HADD HWd HNX HW hl7
          all_goals go_wp2_with (fail)
          all_goals go_roundw
          all_goals first
            | exact ⟨t + 1, .slice A8 n8 k8, by omega, by go_num, HW8⟩
            | (simp [intOf]; omega)
        · obtain rfl : T = t := by omega
          have HXP := rpXT_perm (e := e) (z := zSec m) (P := P) (N := N) (T := T) HTi.out.symm hP1
          rw [HTi.out] at HW
          have hXl := rpXT_len (e := e) (z := zSec m) (P := P) (N := N) T
          have hSO := sort_any (bd + 2) (bd + 2) vt _ _ wr HW.out.src (rpXT_ne T) (fun s hs => by
            obtain ⟨k, hk, hs⟩ := List.mem_filterMap.1 (HXP.mem_iff.1 hs)
            have := List.mem_range.1 hk
            have := rpK_sector hs
            omega) (by rw [HTi.out] at hXl; omega) HXP (rpY_srt N)
          have x0 := HW.out.rc 0 _ rfl
          clear HXP hXl
          go_wp2_with (fail)
          refine hSO.mono ?_; rintro r w8 ⟨rfl, ho8, hb8⟩
          have HW8 := Lib.hid (HW.out.srt HORD.out (by omega) hb8.size ho8 hb8)
          have hord := HORD.out
          obtain ⟨Av, cv, hv, _⟩ := OwnL.shape ho8
          obtain ⟨lv, hlv⟩ : ∃ lv, (rpY e (zSec m) P N).length = lv := ⟨_, rfl⟩
          rw [hlv] at hv
          subst hv
          clear hlv x0 HW hSO ho8 hb8
          have HKD : Hid (∀ w' : World, (∀ (k o : Nat), k ≠ w.heap.size + 1 → k ≠ w.heap.size + 2 → w'.cell? ⟨k, o, none⟩ = w8.cell? ⟨k, o, none⟩) → w'.cell? ⟨bd, 0, none⟩ = some (.int .i64 z.cyl) ∧ w'.cell? ⟨bd, 1, none⟩ = some (.int .i64 z.heads) ∧ w'.cell? ⟨bd, 2, none⟩ = some (.int .i64 (P : Int)) ∧ w'.cell? ⟨bd, 3, none⟩ = some (.int .i64 z.size) ∧ w'.cell? ⟨bd, 4, none⟩ = some (.slice (some ⟨g, 0, none⟩) N c) ∧ w'.cell? ⟨bd + 1, 0, none⟩ = some (.slice Av lv cv)) := Lib.hid fun w' hk => by
            have h0 := hord.o3b
            exact ⟨(hk _ _ (by omega) (by omega)).trans (HW8.out.rd 0 _ rfl), (hk _ _ (by omega) (by omega)).trans (HW8.out.rd 1 _ rfl), (hk _ _ (by omega) (by omega)).trans (HW8.out.rd 2 _ rfl), (hk _ _ (by omega) (by omega)).trans (HW8.out.rd 3 _ rfl), (hk _ _ (by omega) (by omega)).trans (HW8.out.rd 4 _ rfl), (hk _ _ (by omega) (by omega)).trans (HW8.out.rc 0 _ rfl)⟩
          have y0 := HW8.out.r2 0 _ rfl
          have y1 := HW8.out.r2 1 _ rfl
          have y2 := HW8.out.r2 2 _ rfl
          have y3 := HW8.out.r2 3 _ rfl
          have y4 := HW8.out.r2 4 _ rfl
          have y5 := HW8.out.r3 0 _ rfl
          have f0 := HW8.out.f2 0
          have f1 := HW8.out.f2 1
          have f2 := HW8.out.f2 2
          have f3 := HW8.out.f2 3
          have f4 := HW8.out.f2 4
          have f5 := HW8.out.f3 0
          have K0 := Lib.hid (HKD.out w8.drew (fun k o h1 h2 => rfl))
          have K5 := Lib.hid (HKD.out ((((((w8.setCell ⟨w.heap.size + 1, 0, none⟩ (.int .i64 z.cyl)).setCell ⟨w.heap.size + 1, 1, none⟩ (.int .i64 z.heads)).setCell ⟨w.heap.size + 1, 2, none⟩ (.int .i64 (P : Int))).setCell ⟨w.heap.size + 1, 3, none⟩ (.int .i64 z.size)).setCell ⟨w.heap.size + 1, 4, none⟩ (.slice (some ⟨g, 0, none⟩) N c))).drew (fun k o h1 h2 => (cell_dr _ _).trans ((cell_oth h1).trans ((cell_oth h1).trans ((cell_oth h1).trans ((cell_oth h1).trans (cell_oth h1)))))))
          have K9 := Lib.hid (HKD.out (((((((w8.setCell ⟨w.heap.size + 1, 0, none⟩ (.int .i64 z.cyl)).setCell ⟨w.heap.size + 1, 1, none⟩ (.int .i64 z.heads)).setCell ⟨w.heap.size + 1, 2, none⟩ (.int .i64 (P : Int))).setCell ⟨w.heap.size + 1, 3, none⟩ (.int .i64 z.size)).setCell ⟨w.heap.size + 1, 4, none⟩ (.slice (some ⟨g, 0, none⟩) N c)).setCell ⟨w.heap.size + 2, 0, none⟩ (.slice Av lv cv))).drew (fun k o h1 h2 => (cell_dr _ _).trans ((cell_oth h2).trans ((cell_oth h1).trans ((cell_oth h1).trans ((cell_oth h1).trans ((cell_oth h1).trans (cell_oth h1))))))))
          have hne2 : w.heap.size + 1 ≠ w.heap.size + 2 := by omega
          have hne3 : w.heap.size + 2 ≠ w.heap.size + 1 := by omega
          have R9 := (set5_row HW8.out.r2 (.int .i64 z.cyl) (.int .i64 z.heads) (.int .i64 (P : Int)) (.int .i64 z.size) (.slice (some ⟨g, 0, none⟩) N c)).set_other (g := w.heap.size + 2) (o := 0) (.slice Av lv cv) hne2
          have Q9 := (((((HW8.out.r3.set_other (g := w.heap.size + 1) (o := 0) (.int .i64 z.cyl) hne3).set_other (g := w.heap.size + 1) (o := 1) (.int .i64 z.heads) hne3).set_other (g := w.heap.size + 1) (o := 2) (.int .i64 (P : Int)) hne3).set_other (g := w.heap.size + 1) (o := 3) (.int .i64 z.size) hne3).set_other (g := w.heap.size + 1) (o := 4) (.slice (some ⟨g, 0, none⟩) N c) hne3).set (o := 0) (.slice Av lv cv) (by simp)
          have v0 := R9 0 _ rfl
          have v1 := R9 1 _ rfl
          have v2 := R9 2 _ rfl
          have v3 := R9 3 _ rfl
          have v4 := R9 4 _ rfl
          have v5 := Q9 0 _ rfl
          have hG5 : w8.grownBy (((((w8.setCell ⟨w.heap.size + 1, 0, none⟩ (.int .i64 z.cyl)).setCell ⟨w.heap.size + 1, 1, none⟩ (.int .i64 z.heads)).setCell ⟨w.heap.size + 1, 2, none⟩ (.int .i64 (P : Int))).setCell ⟨w.heap.size + 1, 3, none⟩ (.int .i64 z.size)).setCell ⟨w.heap.size + 1, 4, none⟩ (.slice (some ⟨g, 0, none⟩) N c)) (some (w.heap.size + 1)) := gset (gset (gset (gset (gset (World.grownBy.refl w8 _) _ _) _ _) _ _) _ _) _ _
          have hG9 : World.grownBy (((((w8.setCell ⟨w.heap.size + 1, 0, none⟩ (.int .i64 z.cyl)).setCell ⟨w.heap.size + 1, 1, none⟩ (.int .i64 z.heads)).setCell ⟨w.heap.size + 1, 2, none⟩ (.int .i64 (P : Int))).setCell ⟨w.heap.size + 1, 3, none⟩ (.int .i64 z.size)).setCell ⟨w.heap.size + 1, 4, none⟩ (.slice (some ⟨g, 0, none⟩) N c)) ((((((w8.setCell ⟨w.heap.size + 1, 0, none⟩ (.int .i64 z.cyl)).setCell ⟨w.heap.size + 1, 1, none⟩ (.int .i64 z.heads)).setCell ⟨w.heap.size + 1, 2, none⟩ (.int .i64 (P : Int))).setCell ⟨w.heap.size + 1, 3, none⟩ (.int .i64 z.size)).setCell ⟨w.heap.size + 1, 4, none⟩ (.slice (some ⟨g, 0, none⟩) N c)).setCell ⟨w.heap.size + 2, 0, none⟩ (.slice Av lv cv)) (some (w.heap.size + 2)) := gset (World.grownBy.refl _ _) _ _
          have HSE : Hid (SecOwn w.heap.size ((((((w8.setCell ⟨w.heap.size + 1, 0, none⟩ (.int .i64 z.cyl)).setCell ⟨w.heap.size + 1, 1, none⟩ (.int .i64 z.heads)).setCell ⟨w.heap.size + 1, 2, none⟩ (.int .i64 (P : Int))).setCell ⟨w.heap.size + 1, 3, none⟩ (.int .i64 z.size)).setCell ⟨w.heap.size + 1, 4, none⟩ (.slice (some ⟨g, 0, none⟩) N c)).setCell ⟨w.heap.size + 2, 0, none⟩ (.slice Av lv cv)) (.slice (some ⟨g, 0, none⟩) N c) (rpS e (zSec m) P N N N)) := Lib.hid (OwnL.kept (OwnL.kept HW8.out.sec hG5 (.inr (fun e0 => by have e1 : some g = some (w.heap.size + 1) := e0; injection e1 with e1; have := hord.o2; omega))) hG9 (.inr (fun e0 => by have e1 : some g = some (w.heap.size + 2) := e0; injection e1 with e1; have := hord.o2; omega)))
          have HSR : Hid (OwnL Src.cells 3 49 (bd + 2) ((((((w8.setCell ⟨w.heap.size + 1, 0, none⟩ (.int .i64 z.cyl)).setCell ⟨w.heap.size + 1, 1, none⟩ (.int .i64 z.heads)).setCell ⟨w.heap.size + 1, 2, none⟩ (.int .i64 (P : Int))).setCell ⟨w.heap.size + 1, 3, none⟩ (.int .i64 z.size)).setCell ⟨w.heap.size + 1, 4, none⟩ (.slice (some ⟨g, 0, none⟩) N c)).setCell ⟨w.heap.size + 2, 0, none⟩ (.slice Av lv cv)) (.slice Av lv cv) (rpY e (zSec m) P N)) := Lib.hid (OwnL.kept (OwnL.kept HW8.out.src hG5 (.inr (own_far HW8.out.src (by have := hord.o3b; omega)))) hG9 (.inr (own_far HW8.out.src (by have := hord.o3b; omega))))
          have HBW : Hid (Below w.heap.size w ((((((w8.setCell ⟨w.heap.size + 1, 0, none⟩ (.int .i64 z.cyl)).setCell ⟨w.heap.size + 1, 1, none⟩ (.int .i64 z.heads)).setCell ⟨w.heap.size + 1, 2, none⟩ (.int .i64 (P : Int))).setCell ⟨w.heap.size + 1, 3, none⟩ (.int .i64 z.size)).setCell ⟨w.heap.size + 1, 4, none⟩ (.slice (some ⟨g, 0, none⟩) N c)).setCell ⟨w.heap.size + 2, 0, none⟩ (.slice Av lv cv))) := Lib.hid (Below.setCell (Below.setCell (Below.setCell (Below.setCell (Below.setCell (Below.setCell HW8.out.bw (Nat.le_succ _) _) (Nat.le_succ _) _) (Nat.le_succ _) _) (Nat.le_succ _) _) (Nat.le_succ _) _) (by show w.heap.size ≤ w.heap.size + 2; omega) _)
          have hgK : g < bd + 2 := hord.o5g
          have hwK : w.heap.size ≤ bd + 2 := by have := hord.o3b; omega
          clear R9 Q9 hG5 hG9 HKD HW8 hne2 hne3
          go_wp2_with (fail)
          go_region_held3 (fun w' => w'.cell? ⟨bd, 0, none⟩ = some (.int .i64 z.cyl) ∧ w'.cell? ⟨bd, 1, none⟩ = some (.int .i64 z.heads) ∧ w'.cell? ⟨bd, 2, none⟩ = some (.int .i64 (P : Int)) ∧ w'.cell? ⟨bd, 3, none⟩ = some (.int .i64 z.size) ∧ w'.cell? ⟨bd, 4, none⟩ = some (.slice (some ⟨g, 0, none⟩) N c) ∧ w'.cell? ⟨bd + 1, 0, none⟩ = some (.slice Av lv cv))
            (first | with_reducible exact K0.out | with_reducible exact K5.out | with_reducible exact K9.out)
            (fail)
          go_wp2_with (fail)
          generalize ((((((w8.setCell ⟨w.heap.size + 1, 0, none⟩ (.int .i64 z.cyl)).setCell ⟨w.heap.size + 1, 1, none⟩ (.int .i64 z.heads)).setCell ⟨w.heap.size + 1, 2, none⟩ (.int .i64 (P : Int))).setCell ⟨w.heap.size + 1, 3, none⟩ (.int .i64 z.size)).setCell ⟨w.heap.size + 1, 4, none⟩ (.slice (some ⟨g, 0, none⟩) N c)).setCell ⟨w.heap.size + 2, 0, none⟩ (.slice Av lv cv)) = W9 at *
          exact bodyPost_ret (v := .tuple #[.agg #[.int .i64 z.cyl, .int .i64 z.heads, .int .i64 (P : Int), .int .i64 z.size, .slice (some ⟨g, 0, none⟩) N c], .agg #[.slice Av lv cv]]) (by simp [results, Tryz.results18, go_sem, v0, v1, v2, v3, v4, v5] <;> rfl) rfl ⟨_, _, _, rfl, HSE.out, (fun k hk => by have e1 : some g = some k := hk; injection e1 with e1; omega), hwK, HSR.out, HBW.out.drew⟩
end Go.Proofs.YtddihmpiaemadaaGreatDoor
