/- The sectors of a track by parity, the implementation: the walk. The sectors of a track by parity, the reference: the walk. -/
import Derived.Test.YtddihmpiaemadaaGreatDoorFc27
import Derived.Test.YtddihmpiaemadaaGreatDoorFc28
import Derived.Test.YtddihmpiaemadaaGreatDoorFc26
import Derived.Test.YtddihmpiaemadaaGreatDoorFc02
namespace Go.Proofs.YtddihmpiaemadaaGreatDoor
set_option linter.unusedVariables false
set_option linter.unusedSimpArgs false
open Go.RowKit
theorem blk_rp (d : Dsc) (o P : Nat) : blkF d o P = rpB d.secs o P := rfl
theorem rpL_at {S : List Sec} {o j : Nat} {s : Sec} (h : S[o + j]? = some s) : rpL S o j = (s.state == 3) := by
  unfold rpL; rw [List.getD_eq_getElem?_getD, h]; rfl
theorem own_far {α : Type} {f : α → List Value} {z : Nat} {T : TypeId} {B g : Nat} {w : World} {v : Value} {l : List α} (h : OwnL f z T B w v l) (hg : g < B) : v.ownBlock ≠ some g := fun e => by have := (World.ownsRow.lt h g e).1; omega
theorem sec_s7 {w : World} {b gB m : Nat} {v0 v1 v2 v3 v4 u : Value} (h : Row w b [v0, v1, v2, v3, v4]) (hl : w.cell? ⟨gB, m, none⟩ = some u) : w.cell? ⟨b, 0, none⟩ = some v0 ∧ w.cell? ⟨b, 1, none⟩ = some v1 ∧ w.cell? ⟨b, 2, none⟩ = some v2 ∧ w.cell? ⟨b, 3, none⟩ = some v3 ∧ w.cell? ⟨b, 4, none⟩ = some v4 ∧ w.cell? ⟨gB, m, none⟩ = some u := ⟨h 0 _ rfl, h 1 _ rfl, h 2 _ rfl, h 3 _ rfl, h 4 _ rfl, hl⟩
theorem sec_s8 {w : World} {b gB m g o : Nat} {v0 v1 v2 v3 v4 u : Value} (x0 x1 : Value) (h : Row w b [v0, v1, v2, v3, v4]) (hl : w.cell? ⟨gB, m, none⟩ = some u) (h1 : b ≠ g) (h2 : gB ≠ g) :
    ((w.setCell ⟨g, o, none⟩ x0).setCell ⟨g, o + 1, none⟩ x1).cell? ⟨b, 0, none⟩ = some v0 ∧ ((w.setCell ⟨g, o, none⟩ x0).setCell ⟨g, o + 1, none⟩ x1).cell? ⟨b, 1, none⟩ = some v1 ∧ ((w.setCell ⟨g, o, none⟩ x0).setCell ⟨g, o + 1, none⟩ x1).cell? ⟨b, 2, none⟩ = some v2 ∧ ((w.setCell ⟨g, o, none⟩ x0).setCell ⟨g, o + 1, none⟩ x1).cell? ⟨b, 3, none⟩ = some v3 ∧ ((w.setCell ⟨g, o, none⟩ x0).setCell ⟨g, o + 1, none⟩ x1).cell? ⟨b, 4, none⟩ = some v4 ∧ ((w.setCell ⟨g, o, none⟩ x0).setCell ⟨g, o + 1, none⟩ x1).cell? ⟨gB, m, none⟩ = some u := by
  refine sec_s7 ((h.set_other x0 h1).set_other x1 h1) ?_
  exact (World.cell?_setCell_other _ _ _ _ (fun e => by injection e with e1; exact h2 e1.symm)).trans ((World.cell?_setCell_other w _ _ _ (fun e => by injection e with e1; exact h2 e1.symm)).trans hl)
set_option maxRecDepth 20000 in
set_option maxHeartbeats 8000000 in
theorem add_i (B Bd : Nat) (e : Evd) (va vb vc vd : Value) (d : Dsc) (x : Value) (t P o : Nat) (w : World) (h : EvOwn B w e va vb vc vd) (hd : SecOwn Bd w x d.secs)
    (hP : d.per = P) (hP1 : 1 ≤ P) (hPm : P ≤ 1048576) (ho : t * P = o) (ht : o + P ≤ d.secs.length) (hn : d.secs.length ≤ 1048576) (htm : t ≤ 1048576) (hcr : e.cr.length = d.secs.length)
    (pt qt : ByteArray) (hpt : e.p[t]? = some pt) (hqt : e.q[t]? = some qt) (hps : pt.size ≤ 1048576) (hqs : qt.size ≤ 1048576) :
    Calls Tryz.prog 47 #[evV va vb vc vd, dscV d x, .int .i64 t] w fun r w' => ∃ v', r = .returned v' ∧ OwnL Src.cells 3 49 w.heap.size w' v' (rpAdd e d.secs t o P (fltN (rpL d.secs o) P)).2 ∧ SecOwn Bd w' x (rpAdd e d.secs t o P (fltN (rpL d.secs o) P)).1 ∧ w.grownBy w' x.ownBlock := by
  obtain ⟨i0, hi, hz0, hz1, hz2⟩ := info_parts icell_info
  obtain ⟨r0, ri, rz0, rz1, rz2⟩ := info_parts src_info
  have H0 := Lib.hid h
  have HD0 := Lib.hid hd
  have HA1 := Lib.hid (fun hh => rpAdd_no (e := e) (S := d.secs) (t := t) (o := o) (P := P) (L := fltN (rpL d.secs o) P) hh)
  have HA2 := Lib.hid (fun q j hj hh => rpAdd_bad (e := e) (S := d.secs) (t := t) (o := o) (P := P) (L := fltN (rpL d.secs o) P) (q := q) (j := j) hj hh)
  have HA3 := Lib.hid (fun hh => rpAdd_nil (e := e) (S := d.secs) (t := t) (o := o) (P := P) (L := fltN (rpL d.secs o) P) hh)
  have HA4 := Lib.hid (fun hh h2 => rpAdd_yes (e := e) (S := d.secs) (t := t) (o := o) (P := P) (L := fltN (rpL d.secs o) P) hh h2)
  rw [rpC_eq hpt hqt] at HA1 HA4
  rw [rpR_eq hpt hqt] at HA2 HA4
  have HRS := Lib.hid (fun (L : List Int) (vl : Value) (w' : World) (hb : Below w.heap.size w w') (hl : IntsAt w' vl L) (hLn : L.length ≤ 1048576) => rest_i B Bd e va vb vc vd d x L vl t P o w' (h.below hb) (OwnL.below hd hb) hl hLn hP hP1 hPm ho ht hn htm pt qt hpt hqt hps hqs)
  have HFT := Lib.hid (fun (k : Nat) (s : ByteArray) (w' : World) (hb : Below w.heap.size w w') (hk : k < e.cr.length) (hs : s.size ≤ 4096) => fits_i B e va vb vc vd k s w' (h.below hb) hk (by omega) hs)
  obtain ⟨A, n, B', kk, C, i, D, j, rfl, rfl, rfl, rfl⟩ := h.shape
  obtain ⟨X, c, rfl, hX⟩ := OwnL.shape hd
  obtain ⟨g, rfl, _, hg⟩ := hX.resolve_left (by intro e; rw [e] at ht; simp at ht; omega)
  have hcap := own_cap hd
  have h3 : (t : Int) * (P : Int) = (o : Int) := by rw [← ho]; rfl
  have HSC := Lib.hid (fun (k : Nat) (s : Sec) (hk : d.secs[k]? = some s) => And.intro (OwnL.cell Sec.len hd hk (j := 0) rfl) (OwnL.cell Sec.len hd hk (j := 1) rfl))
  have HTR := Lib.hid (fun (w' : World) => track_i d g c t P o w' ho ht hn hcap htm hP1)
  obtain ⟨RE, RD, _, HBZ, zz⟩ := boxes2 w #[.slice A e.ds.length n, .slice B' e.cr.length kk, .slice C e.p.length i, .slice D e.q.length j] #[.int .i64 d.cyl, .int .i64 d.heads, .int .i64 (P : Int), .int .i64 d.size, .slice (some ⟨g, 0, none⟩) d.secs.length c] 28 32
  have HCL : Hid (∀ w', Below (((w.alloc (.cells #[.slice A e.ds.length n, .slice B' e.cr.length kk, .slice C e.p.length i, .slice D e.q.length j] 28)).alloc (.cells #[.int .i64 d.cyl, .int .i64 d.heads, .int .i64 (P : Int), .int .i64 d.size, .slice (some ⟨g, 0, none⟩) d.secs.length c] 32))).heap.size ((w.alloc (.cells #[.slice A e.ds.length n, .slice B' e.cr.length kk, .slice C e.p.length i, .slice D e.q.length j] 28)).alloc (.cells #[.int .i64 d.cyl, .int .i64 d.heads, .int .i64 (P : Int), .int .i64 d.size, .slice (some ⟨g, 0, none⟩) d.secs.length c] 32)) w' → Row w' w.heap.size [.slice A e.ds.length n, .slice B' e.cr.length kk, .slice C e.p.length i, .slice D e.q.length j] ∧ Row w' (w.heap.size + 1) [.int .i64 d.cyl, .int .i64 d.heads, .int .i64 (P : Int), .int .i64 d.size, .slice (some ⟨g, 0, none⟩) d.secs.length c] ∧ Below w.heap.size w w') := Lib.hid fun w' hb => by
    exact ⟨RE.below hb (by rw [zz]; omega), RD.below hb (by rw [zz]; omega), HBZ.trans (hb.mono (by rw [zz]; omega))⟩
  have hdv : dscV d (.slice (some ⟨g, 0, none⟩) d.secs.length c) = .agg #[.int .i64 d.cyl, .int .i64 d.heads, .int .i64 (P : Int), .int .i64 d.size, .slice (some ⟨g, 0, none⟩) d.secs.length c] := by rw [← hP]
  rw [hdv] at HRS ⊢
  obtain ⟨_, rd, BW⟩ := HCL.out _ (Below.refl _ _)
  have ld0 := rd 0 _ rfl
  have ld1 := rd 1 _ rfl
  have ld2 := rd 2 _ rfl
  have ld3 := rd 3 _ rfl
  have ld4 := rd 4 _ rfl
  have HCR := Lib.hid hcr
  clear hdv hP h hd hX RE RD rd hpt hqt ho hcr
  go_enter Tryz.func47, Tryz.ntmps47
  go_wp2_with (fail)
  generalize hw0 : ((w.alloc (.cells #[.slice A e.ds.length n, .slice B' e.cr.length kk, .slice C e.p.length i, .slice D e.q.length j] 28)).alloc (.cells #[.int .i64 d.cyl, .int .i64 d.heads, .int .i64 (P : Int), .int .i64 d.size, .slice (some ⟨g, 0, none⟩) d.secs.length c] 32)) = w0 at *
  clear hw0
  refine (HTR.out w0).mono ?_; rintro r w4 ⟨rfl, hb4⟩
  clear ld0 ld1 ld2 ld3 ld4
  go_wp2_with (fail)
  go_loopw [22, 7] (fun ii out wx => ∃ (q : Nat) (acc : List Int), q ≤ P ∧ ii = .int .i64 q ∧ acc.length ≤ q ∧ Below w0.heap.size w0 wx ∧ Int64L w0.heap.size wx out acc ∧ Hid (acc = fltN (rpL d.secs o) q)) (fun ii _ _ => P - (intOf ii).toNat)
  case atStart => exact ⟨0, [], by omega, rfl, by simp, hb4, OwnL.of_nil, Lib.hid rfl⟩
  case round =>
    obtain ⟨q, acc, hq, rfl, hac, hbx, how, HM⟩ := hrel
    have zx := hbx.size
    obtain ⟨_, _, HBW⟩ := HCL.out wr hbx
    by_cases hltq : q < P
    · obtain ⟨s, hs⟩ : ∃ s, d.secs[o + q]? = some s := ⟨d.secs[o + q]'(by omega), List.getElem?_eq_getElem (by omega)⟩
      obtain ⟨c0, c1⟩ := HSC.out (o + q) s hs
      have f0 := (HBW.cell (p := ⟨g, _, none⟩) hg).trans c0
      have f1 := (HBW.cell (p := ⟨g, _, none⟩) hg).trans c1
      rw [show (o + q) * 2 + 0 = o * 2 + q * 2 by omega] at f0
      rw [show (o + q) * 2 + 1 = o * 2 + q * 2 + 1 by omega] at f1
      have HLq := Lib.hid (rpL_at hs)
      have HO2 : Hid (Int64L w0.heap.size (wr.alloc (.cells #[.string s.data, .int .i64 s.state] 56)) _ acc) := Lib.hid (how.alloc _)
      have HBB : Below w0.heap.size w0 (wr.alloc (.cells #[.string s.data, .int .i64 s.state] 56)) := hbx.alloc zx _
      clear how hs c0 c1
      cases h4 : (s.state == 3)
      · have HN := flt_no HM (show rpL d.secs o q = false by rw [HLq.out, h4])
        go_wp2_with (fail)
        go_roundw
        case rel => exact ⟨q + 1, acc, by omega, by go_num, by omega, HBB, HO2.out, HN⟩
        case measure => simp [intOf]; omega
      · have HN := flt_yes HM (show rpL d.secs o q = true by rw [HLq.out, h4])
        go_wp2_with (at_builtin; refine stopQ ?_)
        intro _
        refine wpList_app1 icell 1 icell_len _ rfl _ _ _ rfl w0.heap.size 2 i0 (.int .i64 0) 8 Tryz.underlying25 hi hz0 hz1 hz2 rfl (by decide) _ acc rfl (OwnL.alloc HO2.out _) _ 1 (q : Int) rfl ?_ (by simp [icell, Value.oneCell']) (by omega) (by omega) (by simp; omega) ?_
        · intro j u hu; cases j with | zero => (simp [icell] at hu; subst hu; first | exact cell_alloc2 _ _ _ _ | simp) | succ j => simp [icell] at hu
        intro v' w5 how2 hg2
        go_wp2_with (fail)
        go_roundw
        case rel => exact ⟨q + 1, acc ++ [(q : Int)], by omega, by go_num, by simp; omega, own_grown_below (OwnL.alloc HO2.out _) (HBB.alloc (by simp; omega) _) hg2 (Nat.le_refl _) (by simp; omega), how2, HN⟩
        case measure => simp [intOf]; omega
    · obtain rfl : P = q := by omega
      have HLL := Lib.hid (show ∀ j ∈ acc, ∃ m : Nat, j = (m : Int) ∧ m < P from fun j hj => by
        rw [HM.out] at hj
        obtain ⟨m, e1, e2, _⟩ := flt_mem hj
        exact ⟨m, e1, e2⟩)
      have HMX := Lib.hid HM.out.symm
      rw [← HM.out] at HA1 HA2 HA3 HA4
      have HO := Lib.hid how
      have HIA := Lib.hid (intsAt_own how)
      obtain ⟨Ac, kc, rfl, _⟩ := OwnL.shape how
      obtain ⟨re, rd, _⟩ := HCL.out wr hbx
      have l0 := re 0 _ rfl
      have l1 := re 1 _ rfl
      have l2 := re 2 _ rfl
      have l3 := re 3 _ rfl
      have ld0 := rd 0 _ rfl
      have ld1 := rd 1 _ rfl
      have ld2 := rd 2 _ rfl
      have ld3 := rd 3 _ rfl
      have ld4 := rd 4 _ rfl
      have HR1 := Lib.hid (HRS.out acc _ wr HBW HIA.out (by omega))
      have HGL := Lib.hid (fun hh : rsB pt qt (r2E (blkF d o P) acc pt qt) = true => show (r2E (blkF d o P) acc pt qt).1.length = P by
        have h2 : ((r2E (blkF d o P) acc pt qt).2 == 0) = true := by unfold rsB at hh; rw [Bool.and_eq_true] at hh; exact hh.2
        rw [r2_out (by simpa using h2)]
        unfold blkF
        simp; omega)
      have HGS := Lib.hid (fun (j : Nat) => r2_getD (bl := blkF d o P) (L := acc) (p := pt) (q := qt) j)
      rw [← blk_rp] at HA1 HA2 HA4
      generalize r2E (blkF d o P) acc pt qt = G at *
      clear how re rd HM HIA HRS
      go_wp2_with (fail)
      refine HR1.out.mono ?_; rintro r w5 ⟨v5, rfl, ho5, hb5⟩
      have HO5 := Lib.hid ho5
      have HB5 := Lib.hid hb5
      have HX5 := Lib.hid (hbx.trans (hb5.mono zx))
      clear ho5 hb5 l0 l1 l2 l3 ld0 ld1 ld2 ld3 ld4 HR1
      obtain ⟨_, _, BW5⟩ := HCL.out w5 HX5.out
      cases hok : rsB pt qt G
      · have HF := Lib.hid (HA1.out hok)
        go_wp2_with (fail)
        go_ret
        exact ⟨_, rfl, by rw [HMX.out, HF.out]; exact OwnL.of_nil, by rw [HMX.out, HF.out]; exact OwnL.below HD0.out BW5, grown_of_below BW5 _⟩
      · by_cases hnil : acc = []
        · have HF := Lib.hid (HA3.out hnil)
          subst hnil
          go_wp2_with (fail)
          go_ret
          exact ⟨_, rfl, by rw [HMX.out, HF.out]; exact OwnL.of_nil, by rw [HMX.out, HF.out]; exact OwnL.below HD0.out BW5, grown_of_below BW5 _⟩
        · have hlen : ¬ acc.length = 0 := fun e0 => hnil (List.eq_nil_of_length_eq_zero e0)
          have hal : acc.length ≤ 1048576 := by omega
          have hb0 : ((acc.length : Int) == 0) = false := by rw [beq_eq_false_iff_ne]; omega
          have HLO5 := Lib.hid (OwnL.below HO.out HB5.out)
          have HBK5 := Lib.hid (HO5.out hok)
          have hGL := HGL.out hok
          obtain ⟨Xl, kl, e9, hXl⟩ := OwnL.shape HLO5.out
          injection e9 with e9a _ e9b
          subst e9a e9b
          obtain ⟨gL, rfl, _, hgL⟩ := hXl.resolve_left hnil
          obtain ⟨Xb, kb, rfl, hXb⟩ := OwnL.shape HBK5.out
          obtain ⟨gB, rfl, _, hgB⟩ := hXb.resolve_left (by intro e0; rw [e0] at hGL; simp at hGL; omega)
          have HGLh := Lib.hid hGL
          rw [hGL] at HBK5
          rw [hGL]
          have HLA := Lib.hid (fun (k : Nat) (u : Int) (hk : acc[k]? = some u) => Int64L.at_ HLO5.out rfl hk)
          have HBA := Lib.hid (fun (k : Nat) (u : ByteArray) (hk : G.1[k]? = some u) => StringL.at_ HBK5.out (by rw [hGL]) hk)
          have HC6 : Hid (∀ w', Below w5.heap.size w5 w' → Row w' w.heap.size [.slice A e.ds.length n, .slice B' e.cr.length kk, .slice C e.p.length i, .slice D e.q.length j] ∧ Row w' (w.heap.size + 1) [.int .i64 d.cyl, .int .i64 d.heads, .int .i64 (P : Int), .int .i64 d.size, .slice (some ⟨g, 0, none⟩) d.secs.length c] ∧ Below w.heap.size w w') := Lib.hid fun w' hb => HCL.out w' (HX5.out.trans (hb.mono HX5.out.size))
          have HFZ := Lib.hid hnil
          clear hXl hXb hGL HO HO5 HGL
          go_wp2_with (fail)
          clear hnil
          go_loopw [52, 12] (fun ii out wx => ∃ (q2 : Nat) (sa : List Src), q2 ≤ acc.length ∧ ii = .int .i64 q2 ∧ sa.length = q2 ∧ Below w5.heap.size w5 wx ∧ OwnL Src.cells 3 49 w5.heap.size wx out sa ∧ Hid (sa = (acc.take q2).map (rpSrc o)) ∧ Hid (∀ j ∈ acc.take q2, rpF e o G.1 j = true)) (fun ii _ _ => acc.length - (intOf ii).toNat)
          case atStart => exact ⟨0, [], by omega, rfl, rfl, Below.refl _ _, OwnL.of_nil, Lib.hid rfl, Lib.hid (fun j hj => by cases hj)⟩
          case round =>
            obtain ⟨q2, sa, hq2, rfl, hsl, hb6, how, HS, HALL⟩ := hrel
            have z6 := hb6.size
            obtain ⟨re, rd, BW6⟩ := HC6.out wr hb6
            by_cases hlt2 : q2 < acc.length
            · obtain ⟨a, ha⟩ : ∃ a, acc[q2]? = some a := ⟨acc[q2], List.getElem?_eq_getElem hlt2⟩
              obtain ⟨m, rfl, hm⟩ := HLL.out a (List.mem_of_getElem? ha)
              obtain ⟨gs, hgs⟩ : ∃ gs, G.1[m]? = some gs := ⟨G.1[m]'(by have := HGLh.out; omega), List.getElem?_eq_getElem (by have := HGLh.out; omega)⟩
              obtain ⟨om, hom⟩ : ∃ om, om = o + m := ⟨_, rfl⟩
              have HFE : Hid (rpF e o G.1 (m : Int) = fitB e.cr om gs) := Lib.hid (by unfold rpF; rw [Int.toNat_natCast, ← hom, List.getD_eq_getElem?_getD, hgs]; rfl)
              have hgz : gs.size ≤ 4096 := by have := HGS.out m; rw [List.getD_eq_getElem?_getD, hgs] at this; simp at this; omega
              have la := (hb6.cell (p := ⟨gL, q2, none⟩) hgL).trans (HLA.out q2 _ ha)
              have lb := (hb6.cell (p := ⟨gB, m, none⟩) hgB).trans (HBA.out m _ hgs)
              have e0 := re 0 _ rfl
              have e1 := re 1 _ rfl
              have e2 := re 2 _ rfl
              have e3 := re 3 _ rfl
              have d2 := rd 2 _ rfl
              have hcast : ((o : Int) + (m : Int)) = (om : Int) := by omega
              have hw1 : IntKind.i64.wrap (o : Int) = (o : Int) := by rw [IntKind.wrap_i64]; omega
              have hw2 : IntKind.i64.wrap (om : Int) = (om : Int) := by rw [IntKind.wrap_i64]; omega
              have hmi : (m : Int) < (P : Int) := by omega
              have HK6 : Hid (∀ w', Below wr.drew.heap.size wr.drew w' → w'.cell? ⟨w.heap.size, 0, none⟩ = some (.slice A e.ds.length n) ∧ w'.cell? ⟨w.heap.size, 1, none⟩ = some (.slice B' e.cr.length kk) ∧ w'.cell? ⟨w.heap.size, 2, none⟩ = some (.slice C e.p.length i) ∧ w'.cell? ⟨w.heap.size, 3, none⟩ = some (.slice D e.q.length j) ∧ w'.cell? ⟨gB, m, none⟩ = some (.string gs)) := Lib.hid fun w' hb => by
                have hbx' := (hb6.drew).trans (hb.mono z6)
                obtain ⟨re', _, _⟩ := HC6.out w' hbx'
                exact ⟨re' 0 _ rfl, re' 1 _ rfl, re' 2 _ rfl, re' 3 _ rfl, (hbx'.cell (p := ⟨gB, m, none⟩) hgB).trans (HBA.out m _ hgs)⟩
              have HFT1 := Lib.hid (HFT.out om gs wr.drew BW6.drew (by have := HCR.out; omega) hgz)
              have HA2' := Lib.hid (fun hh : fitB e.cr om gs = false => HA2.out q2 _ ha (by rw [HFE.out, hh]))
              have HAN := Lib.hid (fun hh : fitB e.cr om gs = true => take_all (p := fun j => rpF e o G.1 j = true) ha HALL.out (by show rpF e o G.1 (m : Int) = true; rw [HFE.out, hh]))
              have HSN := srcs_next ha HS
              have hsrc : Hid (rpSrc o (m : Int) = ⟨4, (om : Int), 0⟩) := Lib.hid (by unfold rpSrc; rw [hcast])
              have HOW := Lib.hid how
              clear ha hgs hgz hom re rd how HFE HALL HS
              generalize fitB e.cr om gs = ft at *
              cases ft
              · have HF := Lib.hid (HA2'.out rfl)
                go_wp2_with (fail)
                go_region_held3 (fun w' => w'.cell? ⟨w.heap.size, 0, none⟩ = some (.slice A e.ds.length n) ∧ w'.cell? ⟨w.heap.size, 1, none⟩ = some (.slice B' e.cr.length kk) ∧ w'.cell? ⟨w.heap.size, 2, none⟩ = some (.slice C e.p.length i) ∧ w'.cell? ⟨w.heap.size, 3, none⟩ = some (.slice D e.q.length j) ∧ w'.cell? ⟨gB, m, none⟩ = some (.string gs))
                  (first | exact ⟨e0, e1, e2, e3, lb⟩ | exact HK6.out _ hb7)
                  (first | (go_at_call 59; refine HFT1.out.mono ?_; rintro r w7 ⟨rfl, hb7⟩; have HB7 := Lib.hid ((Below.refl wr.heap.size wr).drew.trans hb7)))
                have BW7 := BW6.trans (HB7.out.mono BW6.size)
                clear e0 e1 e2 e3 d2 la lb HK6 HFT1 hb7
                go_wp2_with (fail)
                go_ret
                exact ⟨_, rfl, by rw [HMX.out, HF.out]; exact OwnL.of_nil, by rw [HMX.out, HF.out]; exact OwnL.below HD0.out BW7, grown_of_below BW7 _⟩
              · go_wp2_with (fail)
                go_region_held3 (fun w' => w'.cell? ⟨w.heap.size, 0, none⟩ = some (.slice A e.ds.length n) ∧ w'.cell? ⟨w.heap.size, 1, none⟩ = some (.slice B' e.cr.length kk) ∧ w'.cell? ⟨w.heap.size, 2, none⟩ = some (.slice C e.p.length i) ∧ w'.cell? ⟨w.heap.size, 3, none⟩ = some (.slice D e.q.length j) ∧ w'.cell? ⟨gB, m, none⟩ = some (.string gs))
                  (first | exact ⟨e0, e1, e2, e3, lb⟩ | exact HK6.out _ hb7)
                  (first | (go_at_call 59; refine HFT1.out.mono ?_; rintro r w7 ⟨rfl, hb7⟩; have HB7 := Lib.hid ((Below.refl wr.heap.size wr).drew.trans hb7)))
                clear e0 e1 e2 e3 d2 la lb HK6 HFT1 hb7
                have z7 := HB7.out.size
                go_wp2_with (at_builtin; refine stopQ ?_)
                intro _
                refine wpList_app1 Src.cells 3 Src.len _ rfl _ _ _ rfl w5.heap.size 49 r0 (.agg #[.int .i64 0, .int .i64 0, .int .i64 0]) 24 Tryz.underlying33 ri rz0 rz1 rz2 rfl (by decide) _ sa rfl (OwnL.alloc (OwnL.below HOW.out HB7.out) _) _ 1 ⟨4, (om : Int), 0⟩ rfl (Row.alloc w7 #[.int .i64 4, .int .i64 om, .int .i64 0] 49) (by simp [Src.cells, Value.oneCell']) (by omega) (by omega) (by simp; omega) ?_
                intro v' w8 how2 hg2
                go_wp2_with (fail)
                go_roundw
                case rel => exact ⟨q2 + 1, sa ++ [rpSrc o m], by omega, by go_num, by simp; omega, own_grown_below (OwnL.alloc (OwnL.below HOW.out HB7.out) _) ((hb6.trans (HB7.out.mono z6)).alloc (by omega) _) hg2 (Nat.le_refl _) (by simp; omega), by rw [hsrc.out]; exact how2, HSN, Lib.hid (HAN.out (by first | exact rfl | trivial))⟩
                case measure => simp [intOf]; omega
            · obtain rfl : acc.length = q2 := by omega
              have HOWS := Lib.hid how
              rw [List.take_length] at HS HALL
              have HF := Lib.hid (HA4.out hok HALL.out)
              rw [← HS.out] at HF
              have hzg5 : g < gL := by have := (World.ownsRow.lt HLO5.out gL rfl).1; have := HBZ.size; omega
              have hzgB : g < gB := by have := (World.ownsRow.lt HBK5.out gB rfl).1; have := hbx.size; have := HBZ.size; omega
              have hgq : g < w5.heap.size := by omega
              have HLA6 := Lib.hid (fun (k : Nat) (u : Int) (hk : acc[k]? = some u) => (hb6.cell (p := ⟨gL, k, none⟩) hgL).trans (HLA.out k u hk))
              have HBA6 := Lib.hid (fun (k : Nat) (u : ByteArray) (hk : G.1[k]? = some u) => (hb6.cell (p := ⟨gB, k, none⟩) hgB).trans (HBA.out k u hk))
              have HRD := Lib.hid rd
              have HBW6 := Lib.hid BW6
              have HD6 := Lib.hid (OwnL.below HD0.out BW6)
              have hgL6 : gL < wr.heap.size := by omega
              have hgB6 : gB < wr.heap.size := by omega
              have hdz6 : w.heap.size + 1 < wr.heap.size := by have := HX5.out.size; omega
              have hgs5 : w5.heap.size ≤ wr.heap.size := z6
              clear how HS HALL re rd BW6 hb6 z6 HFT HCL HC6 HLA HBA
              revert wr
              intro wq HOWS HLA6 HBA6 HRD HBW6 HD6 hgL6 hgB6 hdz6 hgs5
              go_wp2_with (fail)
              go_loopw [78] (fun ii wx => ∃ (q3 : Nat), q3 ≤ acc.length ∧ ii = .int .i64 q3 ∧ wq.grownBy wx (some g) ∧ SecOwn Bd wx (.slice (some ⟨g, 0, none⟩) d.secs.length c) (rpSet o G.1 d.secs (acc.take q3))) (fun ii _ => acc.length - (intOf ii).toNat)
              case atStart => exact ⟨0, by omega, rfl, World.grownBy.refl _ _, HD6.out⟩
              case round =>
                obtain ⟨q3, hq3, rfl, hg6, how3⟩ := hrel
                have z8 := hg6.size
                by_cases hlt3 : q3 < acc.length
                · obtain ⟨a, ha⟩ : ∃ a, acc[q3]? = some a := ⟨acc[q3], List.getElem?_eq_getElem hlt3⟩
                  obtain ⟨m, rfl, hm⟩ := HLL.out a (List.mem_of_getElem? ha)
                  obtain ⟨gs, hgs⟩ : ∃ gs, G.1[m]? = some gs := ⟨G.1[m]'(by have := HGLh.out; omega), List.getElem?_eq_getElem (by have := HGLh.out; omega)⟩
                  have HNX := Lib.hid (rpSet_next (o := o) (G := G.1) (S := d.secs) ha)
                  rw [Int.toNat_natCast, show G.1.getD m .empty = gs by rw [List.getD_eq_getElem?_getD, hgs]; rfl] at HNX
                  have rd3 := grown_row hg6 hdz6 (by intro e0; injection e0 with e0; omega) HRD.out
                  have la := grown_cell hg6 hgL6 (by intro e0; injection e0 with e0; omega) (HLA6.out q3 _ ha)
                  have lb := grown_cell hg6 hgB6 (by intro e0; injection e0 with e0; omega) (HBA6.out m _ hgs)
                  have ld0 := rd3 0 _ rfl
                  have ld1 := rd3 1 _ rfl
                  have ld2 := rd3 2 _ rfl
                  have ld3 := rd3 3 _ rfl
                  have ld4 := rd3 4 _ rfl
                  have hmi : (m : Int) < (P : Int) := by omega
                  have hSl : Hid ((rpSet o G.1 d.secs (acc.take q3)).length = d.secs.length) := Lib.hid (rpSet_len _ _ _ _)
                  obtain ⟨s, hs⟩ : ∃ s, (rpSet o G.1 d.secs (acc.take q3))[o + m]? = some s := ⟨_, List.getElem?_eq_getElem (by rw [hSl.out]; omega)⟩
                  have HAT := Lib.hid hs
                  have HW3 := Lib.hid how3
                  have hne1 : w.heap.size + 1 ≠ g := by omega
                  have hne2 : gB ≠ g := by omega
                  have hne3 : g ≠ w.heap.size + 1 := by omega
                  have hne4 : g ≠ gB := by omega
                  have hor : Hid (o * 2 + m * 2 = (o + m) * 2) := Lib.hid (by omega)
                  clear ha hgs rd3 hs how3
                  go_wp2_with (fail)
                  go_region_held3 (fun w' => w'.cell? ⟨w.heap.size + 1, 0, none⟩ = some (.int .i64 d.cyl) ∧ w'.cell? ⟨w.heap.size + 1, 1, none⟩ = some (.int .i64 d.heads) ∧ w'.cell? ⟨w.heap.size + 1, 2, none⟩ = some (.int .i64 (P : Int)) ∧ w'.cell? ⟨w.heap.size + 1, 3, none⟩ = some (.int .i64 d.size) ∧ w'.cell? ⟨w.heap.size + 1, 4, none⟩ = some (.slice (some ⟨g, 0, none⟩) d.secs.length c) ∧ w'.cell? ⟨gB, m, none⟩ = some (.string gs))
                    (first | exact ⟨ld0, ld1, ld2, ld3, ld4, lb⟩ | exact HS7.out | exact HS8.out _ _)
                    (first | (go_at_call 81; refine (HTR.out wr.drew).mono ?_; rintro r w7 ⟨rfl, hb7⟩; have HB7 := Lib.hid ((Below.refl wr.heap.size wr).drew.trans hb7); have HO7 := Lib.hid (OwnL.below HW3.out HB7.out); obtain ⟨q0, q1, fz⟩ := secs_at HO7.out hSl.out HAT.out; rw [← hor.out] at q0 q1; have HR7 := Lib.hid ((grown_row hg6 hdz6 (by intro e0; injection e0 with e0; omega) HRD.out).below HB7.out (by omega)); have HL7 := Lib.hid ((HB7.out.cell (p := ⟨gB, m, none⟩) (by show gB < wr.heap.size; omega)).trans lb); have HS7 := Lib.hid (sec_s7 HR7.out HL7.out); have HS8 := Lib.hid (fun v0 v1 => sec_s8 (o := o * 2 + m * 2) v0 v1 HR7.out HL7.out hne1 hne2)))
                  have HOW7 := secs_set HO7.out hSl.out (k := o + m) (by omega) (rpG gs)
                  rw [HNX.out, ← hor.out] at HOW7
                  have HG7 := gset (gset (gtrans hg6 (grown_of_below HB7.out (some g))) (o * 2 + m * 2) (.string gs)) (o * 2 + m * 2 + 1) (.int .i64 1)
                  clear ld0 ld1 ld2 ld3 ld4 la lb HS7 HS8 HR7 HL7 hb7 q0 q1 fz
                  go_wp2_with (fail)
                  go_roundw
                  case rel => exact ⟨q3 + 1, by omega, by go_num, HG7, HOW7⟩
                  case measure => simp [intOf]; omega
                · obtain rfl : acc.length = q3 := by omega
                  rw [List.take_length] at how3
                  have HO3 := Lib.hid how3
                  have HS3 := Lib.hid (OwnL.kept HOWS.out hg6 (.inr (own_far HOWS.out hgq)))
                  have HG3 := Lib.hid (gtrans (grown_of_below HBW6.out (some g)) hg6)
                  clear how3
                  go_wp2_with (fail)
                  go_ret
                  exact ⟨_, rfl, by rw [HMX.out, HF.out]; exact OwnL.base HS3.out (by have := HBW.size; have := HB5.out.size; omega), by rw [HMX.out, HF.out]; exact HO3.out, HG3.out⟩
end Go.Proofs.YtddihmpiaemadaaGreatDoor
namespace Go.Proofs.YtddihmpiaemadaaGreatDoor
set_option linter.unusedVariables false
set_option linter.unusedSimpArgs false
open Go.RowKit
end Go.Proofs.YtddihmpiaemadaaGreatDoor
