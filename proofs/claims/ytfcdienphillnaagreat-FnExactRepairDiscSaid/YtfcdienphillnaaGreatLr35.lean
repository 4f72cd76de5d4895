/- The sectors of a track by parity, the reference: the walk. The worlds of a repair: what the walks keep. -/
import Derived.Test.YtfcdienphillnaaGreatLr34
namespace Go.Proofs.YtfcdienphillnaaGreat
set_option linter.unusedVariables false
set_option linter.unusedSimpArgs false
open Go.RowKit
theorem gtrans_new {a b c : World} {row row' : Option Nat} (h : a.grownBy b row) (k : b.grownBy c row') (hr : ∀ r, row' = some r → a.heap.size ≤ r) : a.grownBy c row :=
  ⟨k.os.trans h.os, k.tape.trans h.tape, k.output.trans h.output, Nat.le_trans h.size k.size, fun i hi hne => (k.block i (Nat.lt_of_lt_of_le hi h.size) (fun e => by have := hr i e.symm; omega)).trans (h.block i hi hne)⟩
theorem grown_own {α : Type} {f : α → List Value} {z : Nat} {T : TypeId} {B g n c : Nat} {w w' : World} {row : Option Nat} {l : List α} (hg : w.grownBy w' row) (h : OwnL f z T B w (.slice (some ⟨g, 0, none⟩) n c) l) (hne : row ≠ some g) : OwnL f z T B w' (.slice (some ⟨g, 0, none⟩) n c) l :=
  OwnL.kept h hg (.inr (fun e => hne e.symm))
theorem sec_s3 {w : World} {b gL q gB m g o : Nat} {v4 ul u : Value} (x0 x1 : Value) (h : w.cell? ⟨b, 4, none⟩ = some v4) (hll : w.cell? ⟨gL, q, none⟩ = some ul) (hl : w.cell? ⟨gB, m, none⟩ = some u) (h1 : b ≠ g) (h2 : gL ≠ g) (h3 : gB ≠ g) :
    ((w.setCell ⟨g, o, none⟩ x0).setCell ⟨g, o + 1, none⟩ x1).cell? ⟨b, 4, none⟩ = some v4 ∧ ((w.setCell ⟨g, o, none⟩ x0).setCell ⟨g, o + 1, none⟩ x1).cell? ⟨gL, q, none⟩ = some ul ∧ ((w.setCell ⟨g, o, none⟩ x0).setCell ⟨g, o + 1, none⟩ x1).cell? ⟨gB, m, none⟩ = some u :=
  have S : ∀ {c k : Nat} {v : Value}, c ≠ g → w.cell? ⟨c, k, none⟩ = some v → ((w.setCell ⟨g, o, none⟩ x0).setCell ⟨g, o + 1, none⟩ x1).cell? ⟨c, k, none⟩ = some v := fun hc hv =>
    (World.cell?_setCell_other _ _ _ _ (fun e => by injection e with e1; exact hc e1.symm)).trans ((World.cell?_setCell_other w _ _ _ (fun e => by injection e with e1; exact hc e1.symm)).trans hv)
  ⟨S h1 h, S h2 hll, S h3 hl⟩
set_option maxRecDepth 20000 in
set_option maxHeartbeats 8000000 in
theorem lost_s (B Bd Bl gb gd : Nat) (e : Evd) (va vb vc vd : Value) (d : Dsc) (x : Value) (L : List Int) (vl : Value) (t P o : Nat) (w : World) (hx : EvBox gb w va vb vc vd) (h : EvOwn B w e va vb vc vd) (hdx : Row w gd (dscL d x)) (hgd : gd < w.heap.size) (hd : SecOwn Bd w x d.secs) (hl : Int64L Bl w vl L) (hLn : L.length ≤ 1048576)
    (hsep : vl.ownBlock ≠ x.ownBlock) (hsed : x.ownBlock ≠ some gd) (hLm : ∀ j ∈ L, ∃ m : Nat, j = (m : Int) ∧ m < P) (hnil : L ≠ [])
    (hP : d.per = P) (hP1 : 1 ≤ P) (hPm : P ≤ 1048576) (ho : t * P = o) (ht : o + P ≤ d.secs.length) (hn : d.secs.length ≤ 1048576) (htm : t ≤ 1048576) (hcr : e.cr.length = d.secs.length) (hcb : ∀ u ∈ e.cr, inB u (-1) 65535 = true)
    (pt qt : ByteArray) (hpt : e.p[t]? = some pt) (hqt : e.q[t]? = some qt) (hps : pt.size ≤ 1048576) (hqs : qt.size ≤ 1048576) :
    Calls Tryz.prog 99 #[.pointer (some ⟨gb, 0, none⟩), .pointer (some ⟨gd, 0, none⟩), .int .i64 t, vl] w fun r w' => ∃ v', r = .returned v' ∧ OwnL Src.cells 3 83 w.heap.size w' v' (rpAdd e d.secs t o P L).2 ∧ SecOwn Bd w' x (rpAdd e d.secs t o P L).1 ∧ w.grownBy w' x.ownBlock := by
  obtain ⟨r0, ri, rz0, rz1, rz2⟩ := info_parts src_info
  have HD0 := Lib.hid hd
  have HL0 := Lib.hid hl
  have HIA := Lib.hid (intsAt_own hl)
  have HA1 := Lib.hid (fun hh => rpAdd_no (e := e) (S := d.secs) (t := t) (o := o) (P := P) (L := L) hh)
  have HA2 := Lib.hid (fun q j hj hh => rpAdd_bad (e := e) (S := d.secs) (t := t) (o := o) (P := P) (L := L) (q := q) (j := j) hj hh)
  have HA4 := Lib.hid (fun hh h2 => rpAdd_yes (e := e) (S := d.secs) (t := t) (o := o) (P := P) (L := L) hh h2)
  rw [rpC_eq hpt hqt] at HA1 HA4
  rw [rpR_eq hpt hqt] at HA2 HA4
  have HRS := Lib.hid (fun (w' : World) (hb : Below w.heap.size w w') => rest_s B Bd gb gd e va vb vc vd d x L vl t P o w' (hx.below hb) (h.below hb) (hdx.below hb hgd) (by have := hb.size; omega) (OwnL.below hd hb) (HIA.out.below hb) hLn hP hP1 hPm ho ht hn htm pt qt hpt hqt hps hqs)
  have HFT := Lib.hid (fun (k : Nat) (s : ByteArray) (w' : World) (hb : Below w.heap.size w w') (hk : k < e.cr.length) (hs : s.size ≤ 4096) => fits_s B gb e va vb vc vd k s w' (hx.below hb) (h.below hb) hk (by omega) hs hcb)
  obtain ⟨X, c, rfl, hX⟩ := OwnL.shape hd
  obtain ⟨g, rfl, _, hg⟩ := hX.resolve_left (by intro e; rw [e] at ht; simp at ht; omega)
  obtain ⟨Xl, kl, rfl, hXl⟩ := OwnL.shape hl
  obtain ⟨gL, rfl, _, hgL⟩ := hXl.resolve_left hnil
  have hgLg : gL ≠ g := fun e0 => hsep (by rw [e0]; rfl)
  have hgdg : gd ≠ g := fun e0 => hsed (by rw [e0]; rfl)
  have h3 : (t : Int) * (P : Int) = (o : Int) := by rw [← ho]; rfl
  have hd2 : w.cell? ⟨gd, 2, none⟩ = some (.int .i64 (P : Int)) := by rw [← hP]; exact hdx 2 _ rfl
  have hd4 : w.cell? ⟨gd, 4, none⟩ = some (.slice (some ⟨g, 0, none⟩) d.secs.length c) := hdx 4 _ rfl
  have HCL : Hid (∀ w', w.grownBy w' (some g) → w'.cell? ⟨gd, 2, none⟩ = some (.int .i64 (P : Int)) ∧ w'.cell? ⟨gd, 4, none⟩ = some (.slice (some ⟨g, 0, none⟩) d.secs.length c) ∧ ∀ (k : Nat) (u : Int), L[k]? = some u → w'.cell? ⟨gL, k, none⟩ = some (.int .i64 u)) := Lib.hid fun w' hb =>
    ⟨grown_cell hb hgd (by intro e0; injection e0 with e0; exact hgdg e0.symm) hd2, grown_cell hb hgd (by intro e0; injection e0 with e0; exact hgdg e0.symm) hd4, fun k u hk => grown_cell hb hgL (by intro e0; injection e0 with e0; exact hgLg e0.symm) (Int64L.at_ HL0.out rfl hk)⟩
  have HGL := Lib.hid (fun hh : rsB pt qt (r2E (blkF d o P) L pt qt) = true => show (r2E (blkF d o P) L pt qt).1.length = P by
    have h2 : ((r2E (blkF d o P) L pt qt).2 == 0) = true := by unfold rsB at hh; rw [Bool.and_eq_true] at hh; exact hh.2
    rw [r2_out (by simpa using h2)]
    unfold blkF
    simp; omega)
  have HGS := Lib.hid (fun (j : Nat) => r2_getD (bl := blkF d o P) (L := L) (p := pt) (q := qt) j)
  have HCR := Lib.hid hcr
  have HLM := Lib.hid hLm
  rw [← blk_rp] at HA1 HA2 HA4
  have hb0 : ((L.length : Int) == 0) = false := by have : ¬ L.length = 0 := fun e0 => hnil (List.eq_nil_of_length_eq_zero e0); rw [beq_eq_false_iff_ne]; omega
  have HB1 : Below w.heap.size w (w.alloc (.cells #[] 83)) := Below.alloc (Below.refl _ _) (Nat.le_refl _) _
  have HR1 := Lib.hid (HRS.out _ HB1)
  have HO1 := Lib.hid (OwnL.of_empty (f := Src.cells) (z := 3) (e := 83) w (Nat.le_refl _))
  clear hP h hd hX hXl hdx hpt hqt ho hx hl hcr hLm hnil hsep hsed hd2 hd4 HRS
  generalize r2E (blkF d o P) L pt qt = G at *
  go_enter Tryz.func99, Tryz.ntmps99
  go_wp2_with (fail)
  have z1 : (w.alloc (.cells #[] 83)).heap.size = w.heap.size + 1 := by simp
  generalize hw1 : w.alloc (.cells #[] 83) = w1 at *
  clear hw1
  refine HR1.out.mono ?_; rintro r w5 ⟨v5, rfl, ho5, hb5⟩
  have HB5 := Lib.hid (HB1.trans (hb5.mono (by omega)))
  have HO6 := Lib.hid (OwnL.below HO1.out hb5)
  have HBK := Lib.hid ho5
  have z5 := hb5.size
  clear ho5 hb5 HR1 HO1 HB1
  have HBE := Lib.hid (fun hh : rsB pt qt G = false => HA1.out hh)
  go_wp2_with (fail)
  go_loopw [12, 11] (fun ii ok wx => ∃ (q : Nat) (b : Bool), q ≤ L.length ∧ ii = .int .i64 q ∧ ok = .bool b ∧ Below w5.heap.size w5 wx ∧ Hid (b = true → rsB pt qt G = true ∧ ∀ j ∈ L.take q, rpF e o G.1 j = true) ∧ Hid (b = false → rpAdd e d.secs t o P L = (d.secs, []))) (fun ii _ _ => L.length - (intOf ii).toNat)
  case atStart => exact ⟨0, _, by omega, rfl, rfl, Below.refl _ _, Lib.hid (fun hh => ⟨hh, fun j hj => by cases hj⟩), Lib.hid HBE.out⟩
  case round =>
    obtain ⟨q, b, hq, rfl, rfl, hb, HT, HN⟩ := hrel
    have zr := hb.size
    have BW := HB5.out.trans (hb.mono (by omega))
    cases b
    · have HF := Lib.hid (HN.out rfl)
      have HOW := Lib.hid (OwnL.below HO6.out hb)
      clear HT HN
      revert wr
      intro wq hb zr BW HOW
      go_wp2_with (fail)
      all_goals
        go_loopw [13, 9] (fun ii out wx => ii = .int .i64 0 ∧ wx = wq ∧ out = .slice (some ⟨w.heap.size, 0, none⟩) 0 0) (fun ii _ _ => 0)
        case atStart => exact ⟨rfl, rfl, rfl⟩
        case round =>
          obtain ⟨rfl, rfl, rfl⟩ := hrel
          go_wp2_with (fail)
          all_goals
            go_ret
            exact ⟨_, rfl, by rw [HF.out]; exact HOW.out, by rw [HF.out]; exact OwnL.below HD0.out BW, grown_of_below BW _⟩
    · obtain ⟨hrs, HALL0⟩ := HT.out rfl
      have HALL := Lib.hid HALL0
      have HBK5 := Lib.hid (HBK.out hrs)
      have hGL := HGL.out hrs
      clear HT HN HALL0
      obtain ⟨Xb, kb, rfl, hXb⟩ := OwnL.shape HBK5.out
      obtain ⟨gB, rfl, hgB0, hgB⟩ := hXb.resolve_left (by intro e0; rw [e0] at hGL; simp at hGL; omega)
      have HGLh := Lib.hid hGL
      have HBA := Lib.hid (fun (k : Nat) (u : ByteArray) (hk : G.1[k]? = some u) => StringL.at_ HBK5.out (by rfl) hk)
      rw [hGL]
      clear hXb hGL
      by_cases hlt2 : q < L.length
      · obtain ⟨a, ha⟩ : ∃ a, L[q]? = some a := ⟨L[q], List.getElem?_eq_getElem hlt2⟩
        obtain ⟨m, rfl, hm⟩ := HLM.out a (List.mem_of_getElem? ha)
        obtain ⟨gs, hgs⟩ : ∃ gs, G.1[m]? = some gs := ⟨G.1[m]'(by have := HGLh.out; omega), List.getElem?_eq_getElem (by have := HGLh.out; omega)⟩
        obtain ⟨om, hom⟩ : ∃ om, om = o + m := ⟨_, rfl⟩
        have HFE : Hid (rpF e o G.1 (m : Int) = fitB e.cr om gs) := Lib.hid (by unfold rpF; rw [Int.toNat_natCast, ← hom, List.getD_eq_getElem?_getD, hgs]; rfl)
        have hgz : gs.size ≤ 4096 := by have := HGS.out m; rw [List.getD_eq_getElem?_getD, hgs] at this; simp at this; omega
        have hcast : ((o : Int) + (m : Int)) = (om : Int) := by omega
        have hw1 : IntKind.i64.wrap (o : Int) = (o : Int) := by rw [IntKind.wrap_i64]; omega
        have hw2 : IntKind.i64.wrap (om : Int) = (om : Int) := by rw [IntKind.wrap_i64]; omega
        have hmi : (m : Int) < (P : Int) := by omega
        have hqi : (q : Int) < (L.length : Int) := by omega
        have HK6 : Hid (∀ w', Below wr.heap.size wr w' → w'.cell? ⟨gd, 2, none⟩ = some (.int .i64 (P : Int)) ∧ w'.cell? ⟨gL, q, none⟩ = some (.int .i64 (m : Int)) ∧ w'.cell? ⟨gB, m, none⟩ = some (.string gs)) := Lib.hid fun w' hb7 => by
          obtain ⟨c1, _, c2⟩ := HCL.out w' (grown_of_below (BW.trans (hb7.mono BW.size)) _)
          exact ⟨c1, c2 q _ ha, (hb7.cell (p := ⟨gB, m, none⟩) (by show gB < wr.heap.size; omega)).trans ((hb.cell (p := ⟨gB, m, none⟩) hgB).trans (HBA.out m _ hgs))⟩
        have HFT1 := Lib.hid (HFT.out om gs wr.drew BW.drew (by have := HCR.out; omega) hgz)
        have HA2' := Lib.hid (fun hh : fitB e.cr om gs = false => HA2.out q _ ha (by rw [HFE.out, hh]))
        have HAN := Lib.hid (fun hh : fitB e.cr om gs = true => take_all (p := fun j => rpF e o G.1 j = true) ha HALL.out (by show rpF e o G.1 (m : Int) = true; rw [HFE.out, hh]))
        have HRSh := Lib.hid hrs
        clear ha hgs hgz hom HFE HALL hrs
        generalize fitB e.cr om gs = ft at *
        go_wp2_with (fail)
        go_region_held3 (fun w' => w'.cell? ⟨gd, 2, none⟩ = some (.int .i64 (P : Int)) ∧ w'.cell? ⟨gL, q, none⟩ = some (.int .i64 (m : Int)) ∧ w'.cell? ⟨gB, m, none⟩ = some (.string gs))
          (first | exact HK6.out _ (Below.refl wr.heap.size wr).drew | exact HK6.out _ HB7.out)
          (first | (go_at_call 77; refine HFT1.out.mono ?_; rintro r w7 ⟨rfl, hb7⟩; have HB7 := Lib.hid ((Below.refl wr.heap.size wr).drew.trans hb7)))
        clear HK6 HFT1 hb7
        go_wp2_with (fail)
        go_roundw
        case rel => exact ⟨q + 1, ft, by omega, by go_num, rfl, hb.trans (HB7.out.mono zr), Lib.hid (fun hh => ⟨HRSh.out, HAN.out hh⟩), Lib.hid HA2'.out⟩
        case measure => simp [intOf]; omega
      · obtain rfl : L.length = q := by omega
        have HALL1 := HALL.out
        rw [List.take_length] at HALL1
        have HF := Lib.hid (HA4.out hrs HALL1)
        have HOW := Lib.hid (OwnL.below HO6.out hb)
        have HD6 := Lib.hid (OwnL.below HD0.out BW)
        have HBW6 := Lib.hid BW
        have HBA6 := Lib.hid (fun (k : Nat) (u : ByteArray) (hk : G.1[k]? = some u) => (hb.cell (p := ⟨gB, k, none⟩) hgB).trans (HBA.out k u hk))
        have hgB6 : gB < wr.heap.size := by omega
        have hz6 : w.heap.size + 1 ≤ wr.heap.size := by omega
        have hgBz : w.heap.size + 1 ≤ gB := by omega
        clear HALL1 HALL hb zr BW HFT hrs HBA
        revert wr
        intro wq HOW HD6 HBW6 HBA6 hgB6 hz6
        go_wp2_with (fail)
        go_loopw [13, 9] (fun ii out wx => ∃ (q3 : Nat) (sa : List Src), q3 ≤ L.length ∧ ii = .int .i64 q3 ∧ sa.length = q3 ∧ w.grownBy wx (some g) ∧ Hid (∀ (k : Nat) (u : ByteArray), G.1[k]? = some u → wx.cell? ⟨gB, k, none⟩ = some (.string u)) ∧ gB < wx.heap.size ∧ out.ownBlock ≠ some gB ∧ SecOwn Bd wx (.slice (some ⟨g, 0, none⟩) d.secs.length c) (rpSet o G.1 d.secs (L.take q3)) ∧ OwnL Src.cells 3 83 w.heap.size wx out sa ∧ Hid (sa = (L.take q3).map (rpSrc o))) (fun ii _ _ => L.length - (intOf ii).toNat)
        case atStart => exact ⟨0, [], by omega, rfl, rfl, grown_of_below HBW6.out _, HBA6, hgB6, (fun e0 => by have e1 : some w.heap.size = some gB := e0; injection e1 with e1; omega), HD6.out, HOW.out, Lib.hid rfl⟩
        case round =>
          obtain ⟨q3, sa, hq3, rfl, hsl, hg6, HBX, hgBx, hnb, how3, hos, HS⟩ := hrel
          have z8 := hg6.size
          by_cases hlt3 : q3 < L.length
          · obtain ⟨a, ha⟩ : ∃ a, L[q3]? = some a := ⟨L[q3], List.getElem?_eq_getElem hlt3⟩
            obtain ⟨m, rfl, hm⟩ := HLM.out a (List.mem_of_getElem? ha)
            obtain ⟨gs, hgs⟩ : ∃ gs, G.1[m]? = some gs := ⟨G.1[m]'(by have := HGLh.out; omega), List.getElem?_eq_getElem (by have := HGLh.out; omega)⟩
            have HNX := Lib.hid (rpSet_next (o := o) (G := G.1) (S := d.secs) ha)
            rw [Int.toNat_natCast, show G.1.getD m .empty = gs by rw [List.getD_eq_getElem?_getD, hgs]; rfl] at HNX
            have HSN := srcs_next (o := o) ha HS
            obtain ⟨om, hom⟩ : ∃ om, om = o + m := ⟨_, rfl⟩
            have hcast : ((o : Int) + (m : Int)) = (om : Int) := by omega
            have hw1 : IntKind.i64.wrap (o : Int) = (o : Int) := by rw [IntKind.wrap_i64]; omega
            have hw2 : IntKind.i64.wrap (om : Int) = (om : Int) := by rw [IntKind.wrap_i64]; omega
            have hsrc : Hid (rpSrc o (m : Int) = ⟨4, (om : Int), 0⟩) := Lib.hid (by unfold rpSrc; rw [hcast])
            have hmi : (m : Int) < (P : Int) := by omega
            have hqi : (q3 : Int) < (L.length : Int) := by omega
            have homi : (om : Int) < (d.secs.length : Int) := by omega
            have homn : om < d.secs.length := by omega
            have hSl : Hid ((rpSet o G.1 d.secs (L.take q3)).length = d.secs.length) := Lib.hid (rpSet_len _ _ _ _)
            obtain ⟨s, hs⟩ : ∃ s, (rpSet o G.1 d.secs (L.take q3))[om]? = some s := ⟨_, List.getElem?_eq_getElem (by rw [hSl.out]; omega)⟩
            obtain ⟨q0, q1, fz⟩ := secs_at how3 hSl.out hs
            obtain ⟨c2, c4, cl0⟩ := HCL.out wr hg6
            have cl := cl0 q3 _ ha
            have lb := HBX.out m _ hgs
            have HW3 := Lib.hid how3
            have HOS := Lib.hid hos
            have HGG := Lib.hid hg6
            rw [← hom] at HNX
            clear ha hgs hs how3 hos hom cl0 HS
            have HS8 := Lib.hid (fun v0 v1 => sec_s3 (o := om * 2) v0 v1 c4 cl lb hgdg hgLg (show gB ≠ g by omega))
            go_wp2_with (fail)
            go_region_held3 (fun w' => w'.cell? ⟨gd, 2, none⟩ = some (.int .i64 (P : Int)) ∧ w'.cell? ⟨gL, q3, none⟩ = some (.int .i64 (m : Int)))
              (first | exact ⟨c2, cl⟩)
              (fail)
            go_wp2_with (fail)
            go_region_held3 (fun w' => w'.cell? ⟨gd, 4, none⟩ = some (.slice (some ⟨g, 0, none⟩) d.secs.length c) ∧ w'.cell? ⟨gL, q3, none⟩ = some (.int .i64 (m : Int)) ∧ w'.cell? ⟨gB, m, none⟩ = some (.string gs))
              (first | exact ⟨c4, cl, lb⟩ | exact HS8.out _ _)
              (fail)
            have HV := gset (gset (World.grownBy.refl wr (some g)) (om * 2) (.string gs)) (om * 2 + 1) (.int .i64 1)
            have hbv : Below (((wr.setCell ⟨g, om * 2, none⟩ (.string gs)).setCell ⟨g, om * 2 + 1, none⟩ (.int .i64 1))).heap.size ((wr.setCell ⟨g, om * 2, none⟩ (.string gs)).setCell ⟨g, om * 2 + 1, none⟩ (.int .i64 1)) (((wr.setCell ⟨g, om * 2, none⟩ (.string gs)).setCell ⟨g, om * 2 + 1, none⟩ (.int .i64 1))).drew.drew := (Below.refl _ _).drew.drew
            have HOW7 := secs_set HW3.out hSl.out homn (rpG gs)
            rw [HNX.out] at HOW7
            have HOW8 := Lib.hid (OwnL.below HOW7 hbv)
            have HG8 := Lib.hid (gtrans (gtrans HGG.out HV) (grown_of_below hbv (some g)))
            have HOS8 := Lib.hid (OwnL.below (OwnL.kept HOS.out HV (.inr (own_far HOS.out hg))) hbv)
            have HBX8 : Hid (∀ (k : Nat) (u : ByteArray), G.1[k]? = some u → ((((wr.setCell ⟨g, om * 2, none⟩ (.string gs)).setCell ⟨g, om * 2 + 1, none⟩ (.int .i64 1))).drew.drew).cell? ⟨gB, k, none⟩ = some (.string u)) := Lib.hid fun k u hk => (hbv.cell (p := ⟨gB, k, none⟩) (by have := HV.size; show gB < _; omega)).trans (grown_cell HV hgBx (by intro e0; injection e0 with e0; omega) (HBX.out k u hk))
            have z9 : wr.heap.size ≤ ((((wr.setCell ⟨g, om * 2, none⟩ (.string gs)).setCell ⟨g, om * 2 + 1, none⟩ (.int .i64 1))).drew.drew).heap.size := by have := HV.size; have := hbv.size; omega
            clear HOW7 hbv HV HS8 q0 q1 fz c2 c4 cl lb
            generalize (((wr.setCell ⟨g, om * 2, none⟩ (.string gs)).setCell ⟨g, om * 2 + 1, none⟩ (.int .i64 1))).drew.drew = W7 at *
            go_wp2_with (at_builtin; refine stopQ ?_)
            intro _
            refine wpList_app1at Src.cells 3 Src.len _ rfl _ _ _ rfl w.heap.size 83 r0 (.agg #[.int .i64 0, .int .i64 0, .int .i64 0]) 24 Tryz.underlying45 ri rz0 rz1 rz2 rfl (by decide) _ sa rfl (OwnL.alloc HOS8.out _) _ 1 ⟨4, (om : Int), 0⟩ rfl (Row.alloc W7 #[.int .i64 4, .int .i64 om, .int .i64 0] 83) (by simp [Src.cells, Value.oneCell']) (by omega) (by omega) (by simp; omega) ?_
            intro v' w8 how2 hg2 hat2
            have hga := Below.alloc (Below.refl W7.heap.size W7) (Nat.le_refl _) (.cells #[.int .i64 4, .int .i64 om, .int .i64 0] 83)
            have hgz : (W7.alloc (.cells #[.int .i64 4, .int .i64 om, .int .i64 0] 83)).heap.size = W7.heap.size + 1 := by simp
            have hlow : ∀ r, u9.ownBlock = some r → w.heap.size ≤ r := fun r hr => (World.ownsRow.lt HOS8.out r hr).1
            have hnot : u9.ownBlock ≠ some g := own_far HOS8.out hg
            have HOW9 := Lib.hid (grown_own hg2 (OwnL.alloc HOW8.out (.cells #[.int .i64 4, .int .i64 om, .int .i64 0] 83)) hnot)
            have HG9 := Lib.hid (gtrans_new (gtrans HG8.out (grown_of_below hga (some g))) hg2 hlow)
            have HBX9 : Hid (∀ (k : Nat) (u : ByteArray), G.1[k]? = some u → w8.cell? ⟨gB, k, none⟩ = some (.string u)) := Lib.hid fun k u hk => grown_cell hg2 (by rw [hgz]; omega) hnb ((hga.cell (p := ⟨gB, k, none⟩) (by show gB < _; omega)).trans (HBX8.out k u hk))
            have hgB9 : gB < w8.heap.size := by have := hg2.size; omega
            have hnb9 : v'.ownBlock ≠ some gB := by
              rcases hat2 with e0 | e0
              · rw [e0]; exact hnb
              · rw [e0, hgz]; intro e1; injection e1 with e1; omega
            clear hga hgz hlow hnot hg2 hat2
            go_wp2_with (fail)
            go_roundw
            case rel => exact ⟨q3 + 1, sa ++ [rpSrc o m], by omega, by go_num, by simp; omega, HG9.out, HBX9, hgB9, hnb9, HOW9.out, by rw [hsrc.out]; exact how2, HSN⟩
            case measure => simp [intOf]; omega
          · obtain rfl : L.length = q3 := by omega
            rw [List.take_length] at how3 HS
            have HO3 := Lib.hid how3
            have HG3 := Lib.hid hg6
            have HOS := Lib.hid hos
            rw [← HS.out] at HF
            clear how3 hos
            go_wp2_with (fail)
            go_ret
            exact ⟨_, rfl, by rw [HF.out]; exact HOS.out, by rw [HF.out]; exact HO3.out, HG3.out⟩
end Go.Proofs.YtfcdienphillnaaGreat
namespace Go.Proofs.YtfcdienphillnaaGreat
set_option linter.unusedVariables false
set_option linter.unusedSimpArgs false
open Go.RowKit
/-- the order of the blocks -/
structure RepO (w : World) (be b g bd bc K : Nat) : Prop where
  o0 : be ≤ b
  o1 : w.heap.size ≤ b
  o2 : b + 1 < g
  o3 : g ≠ bd
  o3b : b + 1 < bd
  o4 : bd < bc
  o4g : g < bc
  o5 : bd < K
  o5g : g < K
structure RepW (w : World) (be : Nat) (E4 D5 : List Value) (b g bd bc K N c : Nat) (wr : World) (vs : Value) (S : List Sec) (X : List Src) : Prop where
  bw : Below w.heap.size w wr
  re : Row wr be E4
  r2 : Row wr b [.int .i64 0, .int .i64 0, .int .i64 0, .int .i64 0, .slice none 0 0]
  f2 : ∀ o, wr.frozen? ⟨b, o, none⟩ = false
  r3 : Row wr (b + 1) [.slice none 0 0]
  f3 : ∀ o, wr.frozen? ⟨b + 1, o, none⟩ = false
  rd : Row wr bd D5
  rc : Row wr bc [vs]
  fc : ∀ o, wr.frozen? ⟨bc, o, none⟩ = false
  sec : SecOwn w.heap.size wr (.slice (some ⟨g, 0, none⟩) N c) S
  src : OwnL Src.cells 3 83 K wr vs X
  hne : vs.ownBlock ≠ some bc
  lt : bc < wr.heap.size
section
variable {w wr w' : World} {be b g bd bc K N c : Nat} {E4 D5 : List Value} {vs v' : Value} {S S' : List Sec} {X X' : List Src}
theorem RepW.below (h : RepW w be E4 D5 b g bd bc K N c wr vs S X) (o : RepO w be b g bd bc K) (hb : Below wr.heap.size wr w') : RepW w be E4 D5 b g bd bc K N c w' vs S X := by
  obtain ⟨o0, o1, o2, o3, o3b, o4, o4g, o5, o5g⟩ := o
  have l := h.lt
  exact ⟨h.bw.trans (hb.mono h.bw.size), h.re.below hb (by omega), h.r2.below hb (by omega), frozen_below h.f2 hb (by omega), h.r3.below hb (by omega), frozen_below h.f3 hb (by omega), h.rd.below hb (by omega), h.rc.below hb (by omega), frozen_below h.fc hb (by omega), OwnL.below h.sec hb, OwnL.below h.src hb, h.hne, by have := hb.size; omega⟩
theorem RepW.grown (h : RepW w be E4 D5 b g bd bc K N c wr vs S X) (o : RepO w be b g bd bc K) (hg : wr.grownBy w' (some g)) (hs : SecOwn w.heap.size w' (.slice (some ⟨g, 0, none⟩) N c) S') : RepW w be E4 D5 b g bd bc K N c w' vs S' X := by
  obtain ⟨o0, o1, o2, o3, o3b, o4, o4g, o5, o5g⟩ := o
  have l := h.lt
  have ne : ∀ k, k ≠ g → (some g : Option Nat) ≠ some k := fun k hk e => by injection e with e; exact hk e.symm
  exact ⟨h.bw.grown hg (by omega) (fun k hk => by injection hk with hk; omega), grown_row hg (by omega) (ne _ (by omega)) h.re, grown_row hg (by omega) (ne _ (by omega)) h.r2, grown_frozen hg (by omega) (ne _ (by omega)) h.f2, grown_row hg (by omega) (ne _ (by omega)) h.r3, grown_frozen hg (by omega) (ne _ (by omega)) h.f3, grown_row hg (by omega) (ne _ (by omega)) h.rd, grown_row hg (by omega) (ne _ (by omega)) h.rc, grown_frozen hg (by omega) (ne _ (by omega)) h.fc, hs, OwnL.kept h.src hg (.inr (own_far h.src (by omega))), h.hne, by have := hg.size; omega⟩
theorem RepW.setS (h : RepW w be E4 D5 b g bd bc K N c wr vs S X) (o : RepO w be b g bd bc K) (hn : S.length = N) {k : Nat} (hk : k < N) (s : Sec) :
    RepW w be E4 D5 b g bd bc K N c ((wr.setCell ⟨g, k * 2, none⟩ (.string s.data)).setCell ⟨g, k * 2 + 1, none⟩ (.int .i64 s.state)) vs (S.set k s) X :=
  h.grown o (gset (gset (World.grownBy.refl wr (some g)) _ _) _ _) (secs_set h.sec hn hk s)
theorem RepW.app (h : RepW w be E4 D5 b g bd bc K N c wr vs S X) (o : RepO w be b g bd bc K) (hg : wr.grownBy w' vs.ownBlock) (hs : OwnL Src.cells 3 83 K w' v' X') (hn : v'.ownBlock ≠ some bc) : RepW w be E4 D5 b g bd bc K N c (w'.setCell ⟨bc, 0, none⟩ v') v' S X' := by
  obtain ⟨o0, o1, o2, o3, o3b, o4, o4g, o5, o5g⟩ := o
  have l := h.lt
  have lK : ∀ k, vs.ownBlock = some k → K ≤ k := fun k hk => (World.ownsRow.lt h.src k hk).1
  have ne : ∀ k, k < K → vs.ownBlock ≠ some k := fun k hk e => by have := lK k e; omega
  have hz := hg.size
  exact ⟨Below.setCell (h.bw.grown hg (by omega) (fun k hk => by have := lK k hk; omega)) (by show w.heap.size ≤ bc; omega) _,
    (grown_row hg (by omega) (ne _ (by omega)) h.re).set_other _ (by omega),
    (grown_row hg (by omega) (ne _ (by omega)) h.r2).set_other _ (by omega),
    fun o => by rw [setCell_frozen]; exact grown_frozen hg (by omega) (ne _ (by omega)) h.f2 o,
    (grown_row hg (by omega) (ne _ (by omega)) h.r3).set_other _ (by omega),
    fun o => by rw [setCell_frozen]; exact grown_frozen hg (by omega) (ne _ (by omega)) h.f3 o,
    (grown_row hg (by omega) (ne _ (by omega)) h.rd).set_other _ (by omega),
    (grown_row hg (by omega) h.hne h.rc).set v' (by simp),
    fun o => by rw [setCell_frozen]; exact grown_frozen hg (by omega) h.hne h.fc o,
    OwnL.kept (OwnL.kept h.sec hg (.inr (fun e => ne g (by omega) e.symm))) (gset (World.grownBy.refl w' (some bc)) _ _) (.inr (fun e => by have e2 : some g = some bc := e; injection e2 with e2; omega)),
    OwnL.kept hs (gset (World.grownBy.refl w' (some bc)) _ _) (.inr hn), hn, by rw [setCell_size]; omega⟩
end
theorem rpX_len {e : Evd} (n : Nat) : (rpX e n).length ≤ n := by
  unfold rpX; exact Nat.le_trans (List.length_filterMap_le _ _) (by simp)
theorem rpPS_len {e : Evd} {z : Sec} {P : Nat} (t : Nat) : (rpPS e z P t).length ≤ P := by
  unfold rpPS
  split
  · rw [List.length_map]; exact flt_len _ _
  · simp
theorem rpXT_len {e : Evd} {z : Sec} {P N : Nat} (t : Nat) : (rpXT e z P N t).length ≤ N + t * P := by
  unfold rpXT
  rw [List.length_append]
  have h1 := rpX_len (e := e) N
  have h2 : ((List.range t).flatMap (rpPS e z P)).length ≤ t * P := by
    induction t with
    | zero => simp
    | succ t ih =>
      rw [List.range_succ, List.flatMap_append, List.length_append, Nat.add_mul]
      have := rpPS_len (e := e) (z := z) (P := P) t
      simp only [List.flatMap_cons, List.flatMap_nil, List.append_nil]
      omega
  omega
theorem rpXT_zero {e : Evd} {z : Sec} {P N : Nat} : rpXT e z P N 0 = rpX e N := by unfold rpXT; simp
theorem nob_at {v v' : Value} {b n : Nat} (h : v'.ownBlock = v.ownBlock ∨ v'.ownBlock = some n) (h1 : v.ownBlock ≠ some b) (h2 : b < n) : v'.ownBlock ≠ some b := by
  rcases h with h | h
  · rw [h]; exact h1
  · rw [h]; intro e; injection e with e; omega
theorem own_slice {α : Type} {f : α → List Value} {z : Nat} {T : TypeId} {B : Nat} {w : World} {v : Value} {l : List α} (h : OwnL f z T B w v l) : ∃ A n k, v = .slice A n k := by
  obtain ⟨A, c, h, _⟩ := OwnL.shape h
  exact ⟨A, _, c, h⟩
/-- append of all of an owned list, at a step of a region that draws -/
theorem step_appAll {P : Program} {α : Type} (f : α → List Value) (z : Nat) (hf : ∀ a, (f a).length = z) (w : World) {ops : Array Oper} {o : Oper} {a : Act} {K : Act → World → Prop} {Q : Exit → Act → World → Prop} {E : Prop} (hgd : o.guard = none) (s x : Operand) (t : TypeId)
    (ho : o.op = .call { callee := .builtin .append, args := #[s, x], argTypes := #[t, t] })
    (B B' : Nat) (e e' : TypeId) (i : TypeInfo) (zv : Value) (bytes : Nat) (ht : P.underlying t = some (.slice e)) (hi : P.info? e = some i) (hz : i.zero = some zv)
    (hsize : i.size = z) (hby : i.bytes = bytes) (hzs : zv.cells.size = z) (hsz : 0 < z)
    (v : Value) (l : List α) (hs : a.eval s = v) (hown : OwnL f z e B w v l)
    (vx : Value) (lx : List α) (hx : a.eval x = vx) (hownx : OwnL f z e' B' w vx lx) (h1 : ∀ b, ∀ u ∈ f b, u.oneCell' = true)
    (hn : l.length + lx.length ≤ 16777216) (hbytes : bytes ≤ 4096) (hbase : B ≤ w.heap.size)
    (h : ∀ v' w', OwnL f z e B w' v' (l ++ lx) → w.grownBy w' v.ownBlock → (v'.ownBlock = v.ownBlock ∨ v'.ownBlock = some w.heap.size) → K (a.put o.dst v') w') :
    if Region.wanted o (yielded ops a.tmps) = true then Oper.wp P o a w K Q else E := by
  have hw : Region.wanted o (yielded ops a.tmps) = true := by unfold Region.wanted; rw [hgd]
  rw [if_pos hw]
  rcases hownx.2 with ⟨rfl, hl0⟩ | ⟨g, cap, cur, rfl, _, hh, hnc, _, hcs, htk⟩
  · obtain rfl : lx = [] := List.eq_nil_of_length_eq_zero hl0
    have hrun := run_append_owned_none (P := P) (w := w) B t o.type e i z ht hi v l.length (flat f l) hown
    unfold Oper.wp
    simp [execOp, ho, resolve, invoke, builtin, hs, hx, hrun, Result.andThen]
    exact h v w (by simpa using hown) (World.grownBy.refl w _) (.inl rfl)
  · have hbb : (l.length + lx.length) * bytes ≤ 140737488355328 := by
      have : (l.length + lx.length) * bytes ≤ 16777216 * 4096 := Nat.mul_le_mul hn hbytes
      omega
    obtain ⟨v', w', hr, h2, h3, _, h5⟩ := run_append_own_at (P := P) w B t o.type e i zv z bytes ht hi hz hsize hby hzs hsz v l.length (flat f l) hown ⟨g, 0, none⟩ lx.length cap (flat f lx) (flat_len hf lx) (hownx.cells (g := g) rfl) (fun u hu => by
      obtain ⟨b, _, hb⟩ := List.mem_flatMap.1 hu
      exact h1 b u hb) (by unfold maxLen; omega) hbb hbase
    unfold Oper.wp execOp
    simp only [ho, resolve, invoke, builtin, Sem.run_bind, Sem.run_pure, Result.andThen_ok, List.map_toArray, List.map_cons, List.map_nil, hs, hx, hr]
    refine h v' w' ?_ h3 h5
    unfold OwnL
    rw [flat_app, List.length_append]
    exact h2
theorem ev_pq {e : Evd} {z : Dsc} {P m T t : Nat} (F : EvF e z P m T) (ht : t < T) : ∃ pt qt, e.p[t]? = some pt ∧ e.q[t]? = some qt ∧ pt.size ≤ 1048576 ∧ qt.size ≤ 1048576 := by
  have h1 := F.pl
  have h2 := F.ql
  have h3 := F.m2
  obtain ⟨pt, hp⟩ : ∃ pt, e.p[t]? = some pt := ⟨e.p[t]'(by omega), List.getElem?_eq_getElem (by omega)⟩
  obtain ⟨qt, hq⟩ : ∃ qt, e.q[t]? = some qt := ⟨e.q[t]'(by omega), List.getElem?_eq_getElem (by omega)⟩
  refine ⟨pt, qt, hp, hq, ?_, ?_⟩
  · rcases F.ps pt (List.mem_of_getElem? hp) with h | h <;> omega
  · rcases F.qs qt (List.mem_of_getElem? hq) with h | h <;> omega
end Go.Proofs.YtfcdienphillnaaGreat
