/- FnRepaired: the walk. Opening the arguments of a law: from the form's reading to plain facts. Opening a slice of bytes that came in. -/
import Derived.Test.YtfcdienphillnaaGreatRd33
import Derived.Test.YtfcdienphillnaaGreatRd35
import Derived.Test.YtfcdienphillnaaGreatRd19
import Derived.Test.YtfcdienphillnaaGreatRd01
import Derived.ProofKit
import Derived.OpenShut
import Derived.ShutString
import Derived.ChangeOld
import Derived.Below
import Derived.Lib.SmallJoins
import Derived.Deep.Slices
namespace Go.Proofs.YtfcdienphillnaaGreat
set_option linter.unusedVariables false
set_option linter.unusedSimpArgs false
open Go.RowKit
theorem own_cellN {α : Type} {f : α → List Value} {z : Nat} {e : TypeId} {B g n c : Nat} {w : World} {l : List α} (hf : ∀ a, (f a).length = z) (h : OwnL f z e B w (.slice (some ⟨g, 0, none⟩) n c) l) (hn : l.length = n) {k j : Nat} {a : α} {u : Value} (hk : l[k]? = some a) (hj : (f a)[j]? = some u) : w.cell? ⟨g, k * z + j, none⟩ = some u := by
  subst hn; exact OwnL.cell hf h hk hj
set_option maxHeartbeats 1000000 in
theorem crc16_s (s : ByteArray) (w : World) (hs : s.size ≤ 2097152) : Calls Tryz.prog 36 #[.string s, .int .i64 65535] w fun e w' => e = .returned (.int .i64 (crcB s)) ∧ w = w' := by
  have HC := Lib.hid (crcS_s s w hs)
  go_enter Tryz.func36, Tryz.ntmps36
  go_wp2_with (first | (go_at_call 72; refine HC.out.mono ?_; rintro e w1 ⟨rfl, rfl⟩) | go_in)
  go_ret
  exact ⟨rfl, rfl⟩
set_option maxHeartbeats 1000000 in
theorem b10lgt (A : Option Addr) (n c : Nat) (w : World) (hm : n ≤ maxLen) : Calls Tryz.prog 33 #[.slice A n c] w fun e w' => e = .returned (.bool (decide (1048576 < n))) ∧ w = w' := by
  go_enter Tryz.func33, Tryz.ntmps33
  go_wp2
  go_ret
  exact ⟨ret_bool (by rw [Bool.eq_iff_iff, decide_eq_true_eq, decide_eq_true_eq]; omega), rfl⟩
set_option maxRecDepth 20000 in
set_option maxHeartbeats 8000000 in
theorem walkFnRepaired (A : Option Addr) (n c : Nat) (w : World) (h1 : BytesIn w A n) (hm : n ≤ maxLen) :
    Calls Tryz.prog 7 #[.slice A n c] w fun e w' => e = .returned (.bool true) ∧ Below w.heap.size w w' := by
  have HL := b10lgt A n c w hm
  cases hlong : decide (1048576 < n)
  rotate_left
  · rw [hlong] at HL
    go_enter Tryz.func7, Tryz.ntmps7
    go_wp2_with (go_at_call 33; refine HL.mono ?_; rintro e w1 ⟨rfl, rfl⟩)
    go_ret
    exact ⟨rfl, Below.refl _ _⟩
  rw [hlong] at HL
  have hn1 : n ≤ 1048576 := by simpa using hlong
  have HDR := Lib.hid (drep_s A n c w h1 hn1)
  clear hlong hm h1
  go_enter Tryz.func7, Tryz.ntmps7
  go_wp2_with (go_at_call 33; refine HL.mono ?_; rintro e w1 ⟨rfl, rfl⟩)
  refine HDR.out.mono ?_; rintro e w1 ⟨E, va, vb, vc, vd, rfl, hev, hsm, hb1⟩
  obtain ⟨A1, n1, B1, n2, C1, n3, D1, n4, rfl, rfl, rfl, rfl⟩ := hev.shape
  have z1 := hb1.size
  have ba : Below w1.heap.size w1 (w1.alloc (.cells #[.slice A1 E.ds.length n1, .slice B1 E.cr.length n2, .slice C1 E.p.length n3, .slice D1 E.q.length n4] 39)) := Below.alloc (Below.refl _ _) (Nat.le_refl _) _
  have RE : Row (w1.alloc (.cells #[.slice A1 E.ds.length n1, .slice B1 E.cr.length n2, .slice C1 E.p.length n3, .slice D1 E.q.length n4] 39)) w1.heap.size [.slice A1 E.ds.length n1, .slice B1 E.cr.length n2, .slice C1 E.p.length n3, .slice D1 E.q.length n4] := Row.alloc w1 _ _
  have HRP := Lib.hid (rpd_i w.heap.size E _ _ _ _ (w1.alloc (.cells #[.slice A1 E.ds.length n1, .slice B1 E.cr.length n2, .slice C1 E.p.length n3, .slice D1 E.q.length n4] 39)) (hev.below ba) hsm)
  have HRE := Lib.hid RE
  have HEV := Lib.hid (hev.below ba)
  have HB2 := Lib.hid (hb1.trans (ba.mono z1))
  have HSM := Lib.hid hsm
  have z2 : ((w1.alloc (.cells #[.slice A1 E.ds.length n1, .slice B1 E.cr.length n2, .slice C1 E.p.length n3, .slice D1 E.q.length n4] 39))).heap.size = w1.heap.size + 1 := by simp
  have x0 := RE 0 _ rfl
  have x1 := RE 1 _ rfl
  have x2 := RE 2 _ rfl
  have x3 := RE 3 _ rfl
  clear HL HDR hev hsm hb1 ba RE
  go_wp2_with (fail)
  generalize (w1.alloc (.cells #[.slice A1 E.ds.length n1, .slice B1 E.cr.length n2, .slice C1 E.p.length n3, .slice D1 E.q.length n4] 39)) = w2 at *
  refine HRP.out.mono ?_; rintro r w3 ⟨x, y, K, rfl, hx, hxk, hwk, hy, hb3⟩
  obtain ⟨d, hd⟩ : ∃ d, rdD E = d := ⟨_, rfl⟩
  rw [hd] at hx ⊢
  obtain ⟨X, c5, rfl, hX⟩ := OwnL.shape hx
  obtain ⟨Y, ly, cy, rfl⟩ := own_slice hy
  have HD := Lib.hid hd
  have z3 := hb3.size
  have Ba : Below w3.heap.size w3 ((w3.alloc (.cells #[.int .i64 d.cyl, .int .i64 d.heads, .int .i64 d.per, .int .i64 d.size, .slice X d.secs.length c5] 43)).alloc (.cells #[.slice Y ly cy] 47)) := Below.alloc (Below.alloc (Below.refl _ _) (Nat.le_refl _) _) (by simp) _
  have HB4 := Lib.hid (HB2.out.trans ((hb3.trans (Ba.mono z3)).mono (by have := HB2.out.size; omega)))
  have HRE4 := Lib.hid (HRE.out.below (hb3.trans (Ba.mono z3)) (by omega))
  have HEV4 := Lib.hid (HEV.out.below (hb3.trans (Ba.mono z3)))
  have HRD4 : Hid (Row ((w3.alloc (.cells #[.int .i64 d.cyl, .int .i64 d.heads, .int .i64 d.per, .int .i64 d.size, .slice X d.secs.length c5] 43)).alloc (.cells #[.slice Y ly cy] 47)) w3.heap.size [.int .i64 d.cyl, .int .i64 d.heads, .int .i64 d.per, .int .i64 d.size, .slice X d.secs.length c5]) := Lib.hid ((Row.alloc w3 #[.int .i64 d.cyl, .int .i64 d.heads, .int .i64 d.per, .int .i64 d.size, .slice X d.secs.length c5] 43).below (Below.alloc (Below.refl _ _) (Nat.le_refl _) _) (by simp))
  have HX4 := Lib.hid (OwnL.below hx Ba)
  have z4 : (((w3.alloc (.cells #[.int .i64 d.cyl, .int .i64 d.heads, .int .i64 d.per, .int .i64 d.size, .slice X d.secs.length c5] 43)).alloc (.cells #[.slice Y ly cy] 47))).heap.size = w3.heap.size + 2 := by simp
  have zb : w1.heap.size < w3.heap.size := by omega
  clear x0 x1 x2 x3 HRP hx hxk hwk hy hb3 hd hX HRE HEV HB2 Ba
  cases hok : evOk E
  · have hC : rdC E = 1 := by unfold rdC; rw [hok]; rfl
    rw [hC]
    clear hC hok
    go_wp2_with (fail)
    go_ret
    exact ⟨rfl, HB4.out⟩
  have hC : rdC E = 0 := by unfold rdC; rw [hok]; rfl
  rw [hC]
  obtain ⟨z, P, m, T, N, F⟩ := rd_f hok
  have HAT := Lib.hid (fun (k : Nat) (hk : k < N) => rdS_at hok F hk)
  rw [HD.out] at HAT
  have hdl : d.secs.length = N := by rw [← HD.out]; unfold rdD; rw [if_pos hok]; show (rdS E).length = N; rw [rdS_len, F.hz, F.hl]
  have hcl : E.cr.length = N := by rw [F.f.crl, F.hn]
  have HF := Lib.hid F
  have HVE := Lib.hid (ev_s w.heap.size E _ _ _ _ ((w3.alloc (.cells #[.int .i64 d.cyl, .int .i64 d.heads, .int .i64 d.per, .int .i64 d.size, .slice X d.secs.length c5] 43)).alloc (.cells #[.slice Y ly cy] 47)) HEV4.out HSM.out)
  rw [hok] at HVE
  rw [hdl] at HRD4 HX4 HB4 HRE4 HEV4 HVE z4 ⊢
  rw [hcl] at HRE4 HEV4 HVE ⊢
  have x0 := HRE4.out 0 _ rfl
  have x1 := HRE4.out 1 _ rfl
  have x2 := HRE4.out 2 _ rfl
  have x3 := HRE4.out 3 _ rfl
  have HCL := Lib.hid hcl
  have HDL := Lib.hid hdl
  have hN1 : 1 ≤ N := by rw [← F.hn]; exact Nat.mul_le_mul F.f.t1 F.f.p1
  have hN2 : N ≤ 128 := F.le
  have hL5 : E.ds.length ≤ 5 := F.f.d5
  clear hC hok F hdl hcl HD HSM
  go_wp2_with (fail)
  generalize ((w3.alloc (.cells #[.int .i64 d.cyl, .int .i64 d.heads, .int .i64 d.per, .int .i64 d.size, .slice X N c5] 43)).alloc (.cells #[.slice Y ly cy] 47)) = w4 at *
  refine HVE.out.mono ?_; rintro r w5 ⟨rfl, hb5⟩
  have z5 := hb5.size
  have HB5 := Lib.hid (HB4.out.trans (hb5.mono HB4.out.size))
  have HRE5 := Lib.hid (HRE4.out.below hb5 (by omega))
  have HRD5 := Lib.hid (HRD4.out.below hb5 (by omega))
  have HEV5 := Lib.hid (HEV4.out.below hb5)
  have HX5 := Lib.hid (OwnL.below HX4.out hb5)
  have y1 := HRE5.out 1 _ rfl
  have y4 := HRD5.out 4 _ rfl
  obtain ⟨ge, hge⟩ : ∃ ge, w1.heap.size = ge := ⟨_, rfl⟩
  obtain ⟨gd, hgd⟩ : ∃ gd, w3.heap.size = gd := ⟨_, rfl⟩
  rw [hge] at HRE5 y1 ⊢
  rw [hgd] at HRD5 y4 ⊢
  have hle : ge < w5.heap.size ∧ gd < w5.heap.size := by omega
  clear x0 x1 x2 x3 HVE HB4 HRE4 HRD4 HEV4 HX4 hb5 hge hgd z4 zb z5
  go_wp2_with (fail)
  clear y1 y4
  go_loopw [7] (fun ii wx => ∃ k : Nat, k ≤ N ∧ ii = .int .i64 k ∧ Below w5.heap.size w5 wx) (fun ii _ => N - (intOf ii).toNat)
  case atStart => exact ⟨0, by omega, rfl, Below.refl _ _⟩
  case round =>
    obtain ⟨k, hk, rfl, hb⟩ := hrel
    have HRDx := Lib.hid (HRD5.out.below hb hle.2)
    have x4 := HRDx.out 4 _ rfl
    by_cases hlt : k < N
    · have hki : (k : Int) < (N : Int) := by omega
      obtain ⟨t, ht, htf⟩ := HAT.out k hlt
      obtain ⟨cx, hcx⟩ : ∃ cx, E.cr[k]? = some cx := ⟨E.cr[k]'(by rw [HCL.out]; exact hlt), List.getElem?_eq_getElem (by rw [HCL.out]; exact hlt)⟩
      have hcd : E.cr.getD k 0 = cx := by rw [List.getD_eq_getElem?_getD, hcx]; rfl
      have HTF := Lib.hid htf
      have HT := Lib.hid ht
      have HCX := Lib.hid hcx
      have HCD := Lib.hid hcd
      clear ht htf hcx hcd
      generalize hwo : wr = wo at *
      clear hwo
      go_wp2_with (fail)
      clear x4
      go_loopw [9, 8] (fun v9 v8 wx => ∃ (i : Nat) (b : Bool), i ≤ E.ds.length ∧ v9 = .int .i64 i ∧ v8 = .bool b ∧ Below w5.heap.size w5 wx ∧ Hid (b = true → rpOk E k = true)) (fun v9 _ _ => E.ds.length - (intOf v9).toNat)
      case atStart => exact ⟨0, false, by omega, rfl, rfl, hb, Lib.hid (fun h => nomatch h)⟩
      case round =>
        clear hb HRDx
        obtain ⟨i, b, hi, rfl, rfl, hb, HG⟩ := hrel
        have zr := hb.size
        have HREx := Lib.hid (HRE5.out.below hb hle.1)
        have HEVx := Lib.hid (HEV5.out.below hb)
        have x0 := HREx.out 0 _ rfl
        by_cases hlti : i < E.ds.length
        · have hii : (i : Int) < (E.ds.length : Int) := by omega
          obtain ⟨A', c', e', hA'⟩ := HEVx.out.ds
          injection e' with e1 _ e2
          subst e1 e2
          obtain ⟨gs, rfl, _, hgs, hcs⟩ := hA'.resolve_left (by intro h0; rw [h0] at hlti; simp at hlti)
          obtain ⟨dd, hdd⟩ : ∃ dd, E.ds[i]? = some dd := ⟨E.ds[i], List.getElem?_eq_getElem hlti⟩
          have hkd : k < dd.secs.length := by rw [HF.out.f.dss dd (List.mem_of_getElem? hdd), HF.out.hn]; exact hlt
          obtain ⟨s, hs⟩ : ∃ s, dd.secs[k]? = some s := ⟨dd.secs[k], List.getElem?_eq_getElem hkd⟩
          have hsz : s.data.size ≤ 32 := by have h1 := HF.out.f.dm dd (List.mem_of_getElem? hdd) s (List.mem_of_getElem? hs); have h2 := HF.out.f.m2; omega
          obtain ⟨bv, o1, o2⟩ := hcs i dd hdd
          obtain ⟨A2, c2, rfl, hA2⟩ := OwnL.shape o1
          obtain ⟨g2, rfl, _, hg2⟩ := hA2.resolve_left (by intro h0; rw [h0] at hkd; simp at hkd)
          have p4 := o2 4 _ rfl
          have s0 : wr.cell? ⟨g2, k * 2, none⟩ = some (.string s.data) := OwnL.cell Sec.len o1 hs (j := 0) rfl
          have s1 : wr.cell? ⟨g2, k * 2 + 1, none⟩ = some (.int .i64 s.state) := OwnL.cell Sec.len o1 hs (j := 1) rfl
          have hkdi : (k : Int) < (dd.secs.length : Int) := by omega
          have hbd : Below wr.heap.size wr (wr.alloc (.cells #[.string s.data, .int .i64 s.state] 70)) := Below.alloc (Below.refl _ _) (Nat.le_refl _) _
          have zd : ((wr.alloc (.cells #[.string s.data, .int .i64 s.state] 70))).heap.size = wr.heap.size + 1 := by simp
          have RS := Row.alloc wr #[.string s.data, .int .i64 s.state] 70
          have hb6 := hb.trans (hbd.mono zr)
          obtain ⟨AC, cc, hvc, hAC⟩ := OwnL.shape HEVx.out.cr
          have hvc' : B1 = AC ∧ n2 = cc := by injection hvc with e1 _ e2; exact ⟨e1, e2⟩
          obtain ⟨rfl, rfl⟩ := hvc'
          obtain ⟨gc, rfl, _, hgc⟩ := hAC.resolve_left (by intro h0; have := HCL.out; rw [h0] at this; simp at this; omega)
          have c0 : wr.cell? ⟨gc, k, none⟩ = some (.int .i64 cx) := by
            have := own_cellN icell_len HEVx.out.cr HCL.out HCX.out (j := 0) rfl
            simpa using this
          have t0 : ∀ x : Wb (wr.alloc (.cells #[.string s.data, .int .i64 s.state] 70)), x.1.cell? ⟨wr.heap.size, 0, none⟩ = some (.string s.data) := fun x => Wb.cell (RS 0 _ rfl) x
          have t1 : ∀ x : Wb (wr.alloc (.cells #[.string s.data, .int .i64 s.state] 70)), x.1.cell? ⟨wr.heap.size, 1, none⟩ = some (.int .i64 s.state) := fun x => Wb.cell (RS 1 _ rfl) x
          have t2 : ∀ x : Wb (wr.alloc (.cells #[.string s.data, .int .i64 s.state] 70)), x.1.cell? ⟨ge, 1, none⟩ = some (.slice (some ⟨gc, 0, none⟩) N n2) := fun x => Wb.cell ((HREx.out.below hbd (by omega)) 1 _ rfl) x
          have t3 : ∀ x : Wb (wr.alloc (.cells #[.string s.data, .int .i64 s.state] 70)), x.1.cell? ⟨gc, k, none⟩ = some (.int .i64 cx) := fun x => Wb.cell ((hbd.cell (p := ⟨gc, k, none⟩) hgc).trans c0) x
          have HOK := Lib.hid (fun (h1 : s.state = 1) (hf : cx < 0 ∨ ((crcB s.data : Nat) : Int) = cx) => rp_good HF.out.f.cr (by rw [HCL.out]; exact hlt) hdd hs h1 (by rw [HCD.out]; exact hf))
          clear hA' hcs hdd hs o1 o2 hA2 RS hvc hAC c0 HREx HEVx hbd
          go_upto_region 17 with (fail)
          generalize (wr.alloc (.cells #[.string s.data, .int .i64 s.state] 70)) = w6 at *
          obtain ⟨q, hq⟩ : ∃ q, wr.heap.size = q := ⟨_, rfl⟩
          rw [hq] at t0 t1 ⊢
          clear hq p4 s0 s1 x0
          cases b
          rotate_left
          · have hgg := Lib.hid (HG.out rfl)
            refine wp_region_wb (by kernel_rfl) (by kernel_rfl) ?_; (repeat (go_big_quiet_step (first | (go_at_call 36; exact Wb.same (crc16_s _ _ (by omega)))))); refine wpQuiet_nil ?_; rintro w7 ⟨⟨w7', hb7⟩, rfl⟩
            have hb67 := hb6.trans (hb7.mono hb6.size)
            clear t0 t1 t2 t3
            go_wp2_with (fail)
            go_roundw
            case rel => exact ⟨i + 1, true, by omega, by go_num, rfl, hb67, Lib.hid (fun _ => hgg.out)⟩
            case measure => simp [intOf]; omega
          · cases hst : (s.state == 1)
            · refine wp_region_wb (by kernel_rfl) (by kernel_rfl) ?_; (repeat (go_big_quiet_step (first | (go_at_call 36; exact Wb.same (crc16_s _ _ (by omega)))))); refine wpQuiet_nil ?_; rintro w7 ⟨⟨w7', hb7⟩, rfl⟩
              have hb67 := hb6.trans (hb7.mono hb6.size)
              clear t0 t1 t2 t3
              go_wp2_with (fail)
              go_roundw
              case rel => exact ⟨i + 1, false, by omega, by go_num, rfl, hb67, Lib.hid (fun h => nomatch h)⟩
              case measure => simp [intOf]; omega
            · have hs1 : s.state = 1 := by simpa using hst
              by_cases hcn : cx < 0
              · have hd1 : decide (cx < 0) = true := decide_eq_true hcn
                have hgg := Lib.hid (HOK.out hs1 (.inl hcn))
                refine wp_region_wb (by kernel_rfl) (by kernel_rfl) ?_; (repeat (go_big_quiet_step (first | (go_at_call 36; exact Wb.same (crc16_s _ _ (by omega)))))); refine wpQuiet_nil ?_; rintro w7 ⟨⟨w7', hb7⟩, rfl⟩
                have hb67 := hb6.trans (hb7.mono hb6.size)
                clear t0 t1 t2 t3
                go_wp2_with (fail)
                go_roundw
                case rel => exact ⟨i + 1, true, by omega, by go_num, rfl, hb67, Lib.hid (fun _ => hgg.out)⟩
                case measure => simp [intOf]; omega
              · have hd1 : decide (cx < 0) = false := decide_eq_false hcn
                have hcn0 : 0 ≤ cx := by omega
                cases hq : (((crcB s.data : Nat) : Int) == cx)
                · refine wp_region_wb (by kernel_rfl) (by kernel_rfl) ?_; (repeat (go_big_quiet_step (first | (go_at_call 36; exact Wb.same (crc16_s _ _ (by omega)))))); refine wpQuiet_nil ?_; rintro w7 ⟨⟨w7', hb7⟩, rfl⟩
                  have hb67 := hb6.trans (hb7.mono hb6.size)
                  clear t0 t1 t2 t3
                  go_wp2_with (fail)
                  go_roundw
                  case rel => exact ⟨i + 1, false, by omega, by go_num, rfl, hb67, Lib.hid (fun h => nomatch h)⟩
                  case measure => simp [intOf]; omega
                · have hgg := Lib.hid (HOK.out hs1 (.inr (by simpa using hq)))
                  refine wp_region_wb (by kernel_rfl) (by kernel_rfl) ?_; (repeat (go_big_quiet_step (first | (go_at_call 36; exact Wb.same (crc16_s _ _ (by omega)))))); refine wpQuiet_nil ?_; rintro w7 ⟨⟨w7', hb7⟩, rfl⟩
                  have hb67 := hb6.trans (hb7.mono hb6.size)
                  clear t0 t1 t2 t3
                  go_wp2_with (fail)
                  go_roundw
                  case rel => exact ⟨i + 1, true, by omega, by go_num, rfl, hb67, Lib.hid (fun _ => hgg.out)⟩
                  case measure => simp [intOf]; omega
        · obtain rfl : i = E.ds.length := by omega
          have HRDx := Lib.hid (HRD5.out.below hb hle.2)
          have HXx := Lib.hid (OwnL.below HX5.out hb)
          obtain ⟨AX, cX, hvX, hAX⟩ := OwnL.shape HXx.out
          have hdl0 : d.secs ≠ [] := fun h0 => by have := (List.getElem?_eq_some_iff.1 HT.out).1; rw [h0] at this; simp at this
          have hvX' : X = AX ∧ c5 = cX := by injection hvX with e1 _ e2; exact ⟨e1, e2⟩
          obtain ⟨rfl, rfl⟩ := hvX'
          obtain ⟨gx, rfl, _, hgx⟩ := hAX.resolve_left hdl0
          obtain ⟨AC, cc, hvc, hAC⟩ := OwnL.shape HEVx.out.cr
          have hvc' : B1 = AC ∧ n2 = cc := by injection hvc with e1 _ e2; exact ⟨e1, e2⟩
          obtain ⟨rfl, rfl⟩ := hvc'
          obtain ⟨gc, rfl, _, hgc⟩ := hAC.resolve_left (by intro h0; have := HCL.out; rw [h0] at this; simp at this; omega)
          have c0 : wr.cell? ⟨gc, k, none⟩ = some (.int .i64 cx) := by
            have := own_cellN icell_len HEVx.out.cr HCL.out HCX.out (j := 0) rfl
            simpa using this
          have t0 : ∀ x : Wb wr, x.1.cell? ⟨gx, k * 2, none⟩ = some (.string t.data) := fun x => Wb.cell (own_cellN Sec.len HXx.out HDL.out HT.out (j := 0) rfl) x
          have t1 : ∀ x : Wb wr, x.1.cell? ⟨gx, k * 2 + 1, none⟩ = some (.int .i64 t.state) := fun x => Wb.cell (own_cellN Sec.len HXx.out HDL.out HT.out (j := 1) rfl) x
          have t2 : ∀ x : Wb wr, x.1.cell? ⟨ge, 1, none⟩ = some (.slice (some ⟨gc, 0, none⟩) N n2) := fun x => Wb.cell (HREx.out 1 _ rfl) x
          have t3 : ∀ x : Wb wr, x.1.cell? ⟨gc, k, none⟩ = some (.int .i64 cx) := fun x => Wb.cell c0 x
          have t4 : ∀ x : Wb wr, x.1.cell? ⟨gd, 4, none⟩ = some (.slice (some ⟨gx, 0, none⟩) N c5) := fun x => Wb.cell (HRDx.out 4 _ rfl) x
          have htz : t.data.size ≤ 64 := HTF.out.size
          have HFT := Lib.hid (HTF.out.fit)
          rw [HCD.out] at HFT
          clear HXx HRDx hvX hAX hvc hAC c0 HEVx HREx hdl0
          go_upto_region 18 with (fail)
          clear x0
          cases hst : (t.state == 1)
          · have hst2 : (t.state != 1) = true := by unfold bne; rw [hst]; rfl
            obtain rfl : b = false := by
              cases b
              · rfl
              · have h0 := HTF.out.good (HG.out rfl); rw [h0] at hst; cases hst
            refine wp_region_wb (by kernel_rfl) (by kernel_rfl) ?_; (repeat (go_big_quiet_step (first | (go_at_call 36; exact Wb.same (crc16_s _ _ (by omega)))))); refine wpQuiet_nil ?_; rintro w7 ⟨⟨w7', hb7⟩, rfl⟩
            have hb67 := hb.trans (hb7.mono zr)
            clear t0 t1 t2 t3 t4
            go_wp2_with (fail)
            go_roundw
            case rel => exact ⟨k + 1, by omega, by go_num, hb67⟩
            case measure => simp [intOf]; omega
          · have ht1 : t.state = 1 := by simpa using hst
            have hst2 : (t.state != 1) = false := by unfold bne; rw [hst]; rfl
            by_cases hcn : 0 ≤ cx
            · have hq : ((crcB t.data : Nat) : Int) = cx := HFT.out ht1 hcn
              have hd1 : decide (cx ≥ 0) = true := decide_eq_true hcn
              have hd2 : decide (0 ≤ cx) = true := decide_eq_true hcn
              have hq2 : (((crcB t.data : Nat) : Int) != cx) = false := by rw [hq]; simp
              clear hq
              cases b
              · refine wp_region_wb (by kernel_rfl) (by kernel_rfl) ?_; (repeat (go_big_quiet_step (first | (go_at_call 36; exact Wb.same (crc16_s _ _ (by omega)))))); refine wpQuiet_nil ?_; rintro w7 ⟨⟨w7', hb7⟩, rfl⟩
                have hb67 := hb.trans (hb7.mono zr)
                clear t0 t1 t2 t3 t4
                go_wp2_with (fail)
                go_roundw
                case rel => exact ⟨k + 1, by omega, by go_num, hb67⟩
                case measure => simp [intOf]; omega
              · refine wp_region_wb (by kernel_rfl) (by kernel_rfl) ?_; (repeat (go_big_quiet_step (first | (go_at_call 36; exact Wb.same (crc16_s _ _ (by omega)))))); refine wpQuiet_nil ?_; rintro w7 ⟨⟨w7', hb7⟩, rfl⟩
                have hb67 := hb.trans (hb7.mono zr)
                clear t0 t1 t2 t3 t4
                go_wp2_with (fail)
                go_roundw
                case rel => exact ⟨k + 1, by omega, by go_num, hb67⟩
                case measure => simp [intOf]; omega
            · have hd1 : decide (cx ≥ 0) = false := decide_eq_false hcn
              have hd2 : decide (0 ≤ cx) = false := decide_eq_false hcn
              cases b
              · refine wp_region_wb (by kernel_rfl) (by kernel_rfl) ?_; (repeat (go_big_quiet_step (first | (go_at_call 36; exact Wb.same (crc16_s _ _ (by omega)))))); refine wpQuiet_nil ?_; rintro w7 ⟨⟨w7', hb7⟩, rfl⟩
                have hb67 := hb.trans (hb7.mono zr)
                clear t0 t1 t2 t3 t4
                go_wp2_with (fail)
                go_roundw
                case rel => exact ⟨k + 1, by omega, by go_num, hb67⟩
                case measure => simp [intOf]; omega
              · refine wp_region_wb (by kernel_rfl) (by kernel_rfl) ?_; (repeat (go_big_quiet_step (first | (go_at_call 36; exact Wb.same (crc16_s _ _ (by omega)))))); refine wpQuiet_nil ?_; rintro w7 ⟨⟨w7', hb7⟩, rfl⟩
                have hb67 := hb.trans (hb7.mono zr)
                clear t0 t1 t2 t3 t4
                go_wp2_with (fail)
                go_roundw
                case rel => exact ⟨k + 1, by omega, by go_num, hb67⟩
                case measure => simp [intOf]; omega
    · obtain rfl : k = N := by omega
      go_wp2_with (fail)
      go_ret
      exact ⟨rfl, HB5.out.trans (hb.mono HB5.out.size)⟩
end Go.Proofs.YtfcdienphillnaaGreat
namespace Go.Proofs.YtfcdienphillnaaGreat
set_option linter.unusedVariables false
set_option linter.unusedSimpArgs false
open Go.ChangeShapes Go.WideShapes Go.ChangeAt Go.RowKit
open Go.Joins (open_agg2 open_agg3 open_agg4)

section
variable {H : Type} {enc : TypeId × Value → H} {W : World} {base : Nat} {v : Value} {d : DataW H} {p : List MemPlace}
end
end Go.Proofs.YtfcdienphillnaaGreat
namespace Go.Proofs.YtfcdienphillnaaGreat
set_option linter.unusedVariables false
set_option linter.unusedSimpArgs false
open Go.ChangeShapes Go.WideShapes Go.ChangeAt Go.RowKit
set_option maxRecDepth 20000

section
variable {H : Type} {enc : TypeId × Value → H} {W : World} {base : Nat} {v : Value} {d : DataW H} {p : List MemPlace} {fuel : Nat} {sp : Nat → Bool} {hd : Bool} {b0 : Nat} {cs : List Value} {x : DataW H × List MemPlace}
theorem wf_u8 {x : Int} (h : (Lit.int .u8 x).wf = true) : 0 ≤ x ∧ x ≤ 255 := by
  simp [Lit.wf, IntKind.signed, IntKind.bits] at h
  exact h
theorem c_Byte (h : DataW.trod enc Tryz.prog W b0 sp hd fuel 5 cs = some x) : ∃ e : Nat, cs = [.int .u8 (e : Int)] ∧ e < 256 := by
  obtain ⟨s, e0, _, w0⟩ := DataW.trod_int Tryz.underlying5 h
  have hb := wf_u8 w0
  refine ⟨s.toNat, ?_, by omega⟩
  rw [e0, show ((s.toNat : Nat) : Int) = s by omega]
theorem o_Bytes (e : Value.okWide Tryz.prog W .any base 65 v) (h : DataW.Trod enc Tryz.prog W 0 sp hd 65 v d p) : ∃ A n c, v = .slice A n c ∧ BytesIn W A n ∧ n ≤ maxLen := by
  obtain ⟨A, n, c, rfl⟩ := okWide_slice Tryz.underlying65 e
  obtain ⟨fuel, hf⟩ := h
  have hC : Tryz.prog.cellsOf 5 = 1 := by kernel_rfl
  refine ⟨A, n, c, rfl, ?_⟩
  rcases Go.Deep.open_slice Tryz.underlying65 hf with ⟨hcs, _⟩ | ⟨a, len, cap, m, k, D, Pl, hcs, hb, hl, hm, hmm, _, hx⟩
  · simp [Value.cells] at hcs
    obtain ⟨rfl, rfl, rfl⟩ := hcs
    exact ⟨.inl rfl, Nat.zero_le _⟩
  · simp [Value.cells] at hcs
    obtain ⟨rfl, rfl, rfl⟩ := hcs
    have hlm : n ≤ m := by rw [hmm]; split <;> omega
    refine ⟨?_, by omega⟩
    have hF : ∀ i, i < n → ∃ e : Nat, e < 256 ∧ W.cell? (a.add i) = some (.int .u8 (e : Int)) := fun i hi => by
      obtain ⟨cs, h1, h2⟩ := hx i (by omega)
      rw [hC] at h1
      obtain ⟨e, rfl, hv⟩ := c_Byte h2
      obtain ⟨_, _, h3⟩ := World.cells?_some h1
      refine ⟨e, hv, ?_⟩
      have := h3 0 (by omega)
      simpa [Go.Deep.add_add] using this
    rcases Nat.eq_zero_or_pos n with rfl | h0
    · exact .inl rfl
    · obtain ⟨b, o, spot⟩ := a
      obtain ⟨e0, _, hc0⟩ := hF 0 h0
      have hspot : spot = none := by simpa [Addr.add] using World.cell?_spot hc0
      subst hspot
      have hc00 := World.block_lt_of_cell? W _ hc0
      refine .inr ⟨b, o, rfl, by simpa [Addr.add] using hc00, fun j hj => ?_⟩
      obtain ⟨e, he, hc⟩ := hF j hj
      refine ⟨e, he, ?_⟩
      have e2 : (⟨b, o, none⟩ : Addr).add j = ⟨b, o + j, none⟩ := by unfold Addr.add; split <;> simp_all
      rw [e2] at hc
      exact hc
end
end Go.Proofs.YtfcdienphillnaaGreat
