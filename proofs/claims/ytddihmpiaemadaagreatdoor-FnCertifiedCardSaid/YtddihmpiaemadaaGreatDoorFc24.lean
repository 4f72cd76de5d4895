/- Parity of a certificate: the walks of the implementation. -/
import Derived.Test.YtddihmpiaemadaaGreatDoorFc20
import Derived.Test.YtddihmpiaemadaaGreatDoorFc22
import Derived.Test.YtddihmpiaemadaaGreatDoorFc23
import Derived.StillTailTactics
namespace Go.Proofs.YtddihmpiaemadaaGreatDoor
set_option linter.unusedVariables false
set_option linter.unusedSimpArgs false
open Go.RowKit
theorem own_cap {α : Type} {f : α → List Value} {z : Nat} {e : TypeId} {B g n c : Nat} {w : World} {l : List α} (h : OwnL f z e B w (.slice (some ⟨g, 0, none⟩) n c) l) : n ≤ c := by
  rcases h.2 with ⟨e, _⟩ | ⟨g', cap, cur, e, _, _, h1, _⟩
  · cases e
  · have e1 : n = l.length := by injection e
    have e2 : c = cap := by injection e
    omega
theorem track_i (d : Dsc) (g c : Nat) (t P o : Nat) (w : World) (ho : t * P = o) (ht : o + P ≤ d.secs.length) (hn : d.secs.length ≤ 1048576) (hcap : d.secs.length ≤ c) (ht2 : t ≤ 1048576) (hP2 : 1 ≤ P) :
    Calls Tryz.prog 81 #[.agg #[.int .i64 d.cyl, .int .i64 d.heads, .int .i64 (P : Int), .int .i64 d.size, .slice (some ⟨g, 0, none⟩) d.secs.length c], .int .i64 t] w fun r w' => r = .returned (.slice (some ⟨g, o * 2, none⟩) P (c - o)) ∧ Below w.heap.size w w' := by
  have h1 : ((t : Int) + 1) * (P : Int) = ((o + P : Nat) : Int) := by rw [Int.add_mul, Int.one_mul, ← ho]; rfl
  have h3 : (t : Int) * (P : Int) = (o : Int) := by rw [← ho]; rfl
  have hne : ¬ c = o := by omega
  have hsub : o + P - o = P := by omega
  clear ho
  go_enter Tryz.func81, Tryz.ntmps81
  go_wp2
  all_goals first | (exfalso; omega) | (go_ret; exact ⟨congrArg (fun z => Ending.returned (.slice (some ⟨g, o * 2, none⟩) z (c - o))) hsub, Below.alloc (Below.refl _ _) (Nat.le_refl _) _⟩)
theorem bne_codeT {c : Int} (h : (c == 0) = true) : (c != 0) = false := by unfold bne; rw [h]; rfl
theorem bne_codeF {c : Int} (h : (c == 0) = false) : (c != 0) = true := by unfold bne; rw [h]; rfl
theorem boxes3 (w : World) (E D C : Array Value) (te td tc : TypeId) :
    Row (((w.alloc (.cells E te)).alloc (.cells D td)).alloc (.cells C tc)) w.heap.size E.toList ∧ Row (((w.alloc (.cells E te)).alloc (.cells D td)).alloc (.cells C tc)) (w.heap.size + 1) D.toList ∧ Row (((w.alloc (.cells E te)).alloc (.cells D td)).alloc (.cells C tc)) (w.heap.size + 2) C.toList ∧ Below w.heap.size w (((w.alloc (.cells E te)).alloc (.cells D td)).alloc (.cells C tc)) ∧ (((w.alloc (.cells E te)).alloc (.cells D td)).alloc (.cells C tc)).heap.size = w.heap.size + 3 := by
  have s1 : (w.alloc (.cells E te)).heap.size = w.heap.size + 1 := by simp
  have s2 : ((w.alloc (.cells E te)).alloc (.cells D td)).heap.size = w.heap.size + 2 := by simp
  have r1 := Row.alloc w E te
  have r2 := Row.alloc (w.alloc (.cells E te)) D td
  have r3 := Row.alloc ((w.alloc (.cells E te)).alloc (.cells D td)) C tc
  have b2 : Below (w.alloc (.cells E te)).heap.size (w.alloc (.cells E te)) ((w.alloc (.cells E te)).alloc (.cells D td)) := Below.alloc (Below.refl _ _) (Nat.le_refl _) _
  have b3 : Below ((w.alloc (.cells E te)).alloc (.cells D td)).heap.size ((w.alloc (.cells E te)).alloc (.cells D td)) (((w.alloc (.cells E te)).alloc (.cells D td)).alloc (.cells C tc)) := Below.alloc (Below.refl _ _) (Nat.le_refl _) _
  have r1' := (r1.below b2 (by omega)).below b3 (by omega)
  have r2' := r2.below b3 (by omega)
  rw [s1] at r2'
  rw [s2] at r3
  exact ⟨r1', r2', r3, (((Below.refl _ _).alloc (Nat.le_refl _) _).alloc (by omega) _).alloc (by omega) _, by simp⟩
set_option maxRecDepth 20000 in
set_option maxHeartbeats 8000000 in
theorem par_i (B Bd Bc : Nat) (e : Evd) (va vb vc vd : Value) (d : Dsc) (x : Value) (l : List Src) (y : Value) (t P o : Nat) (w : World) (h : EvOwn B w e va vb vc vd) (hd : SecOwn Bd w x d.secs) (hl : OwnL Src.cells 3 49 Bc w y l)
    (hP : d.per = P) (hP1 : 1 ≤ P) (hPm : P ≤ 1048576) (ho : t * P = o) (ht : o + P ≤ d.secs.length) (hn : d.secs.length ≤ 1048576) (hll : l.length ≤ 1048576) (htm : t ≤ 1048576)
    (pt qt : ByteArray) (hpt : e.p[t]? = some pt) (hqt : e.q[t]? = some qt) (hps : pt.size ≤ 1048576) (hqs : qt.size ≤ 1048576) :
    Calls Tryz.prog 64 #[evV va vb vc vd, dscV d x, .agg #[y], .int .i64 t] w fun r w' => r = .returned (.bool (parC e d l t)) ∧ Below w.heap.size w w' := by
  obtain ⟨i0, hi, hz0, hz1, hz2⟩ := info_parts icell_info
  obtain ⟨s0, si, sz0, sz1, sz2⟩ := info_parts scell_info
  have hpn : d.per.toNat = P := by rw [hP]; rfl
  have HR : r2T e d l t = r2E (blkF d o P) (fltN (losB l o) P) pt qt := by
    unfold r2T
    rw [hpn, ho, los_flt, show e.p.getD t .empty = pt by rw [List.getD_eq_getElem?_getD, hpt]; rfl, show e.q.getD t .empty = qt by rw [List.getD_eq_getElem?_getD, hqt]; rfl]
  have HPcode := Lib.hid (fun hh => par_code (e := e) (d := d) (l := l) (t := t) hh)
  have HPbad := Lib.hid (fun (j : Nat) hj hh => par_bad1 (e := e) (d := d) (l := l) (t := t) (j := j) hj hh)
  have HPgood := Lib.hid (fun hh hj => par_good (e := e) (d := d) (l := l) (t := t) hh hj)
  have HPoth := Lib.hid (fun (j : Nat) hh => pcB_other (e := e) (d := d) (l := l) (t := t) (j := j) hh)
  have HPat := Lib.hid (fun (j : Nat) (a : ByteArray) (s : Sec) hj ha hs => pcB_at (e := e) (d := d) (l := l) (t := t) (j := j) (a := a) (s := s) hj ha hs)
  rw [hpn] at HPbad HPgood HPat
  rw [hpn, ho] at HPoth
  rw [ho] at HPat
  generalize hpar : parC e d l t = PC at *
  generalize pcB e d l t = pc at *
  rw [HR] at HPcode HPgood HPat
  clear HR hpar hpn
  obtain ⟨A, n, B', kk, C, i, D, j, rfl, rfl, rfl, rfl⟩ := h.shape
  obtain ⟨X, c, rfl, hX⟩ := OwnL.shape hd
  obtain ⟨g, rfl, _, hg⟩ := hX.resolve_left (by intro e; rw [e] at ht; simp at ht; omega)
  obtain ⟨A2, c2, rfl, _⟩ := OwnL.shape hl
  have hcap := own_cap hd
  obtain ⟨Cp, ip, hCp, hCA⟩ := OwnL.shape h.p
  injection hCp with e1 _ e2
  subst e1 e2
  obtain ⟨gp, rfl, _, hgp⟩ := hCA.resolve_left (by intro e; rw [e] at hpt; cases hpt)
  obtain ⟨Dq, jq, hDq, hDA⟩ := OwnL.shape h.q
  injection hDq with e1 _ e2
  subst e1 e2
  obtain ⟨gq, rfl, _, hgq⟩ := hDA.resolve_left (by intro e; rw [e] at hqt; cases hqt)
  have cp := StringL.at_ h.p rfl hpt
  have cq := StringL.at_ h.q rfl hqt
  have htp : t < e.p.length := (List.getElem?_eq_some_iff.1 hpt).1
  have htq : t < e.q.length := (List.getElem?_eq_some_iff.1 hqt).1
  have HSC := Lib.hid (fun (k : Nat) (s : Sec) (hk : d.secs[k]? = some s) => And.intro (OwnL.cell Sec.len hd hk (j := 0) rfl) (OwnL.cell Sec.len hd hk (j := 1) rfl))
  have HKD := Lib.hid (fun (q : Int) (w' : World) (hb : Below w.heap.size w w') => kind_i Bc l (.slice A2 l.length c2) q w' (OwnL.below hl hb) hll)
  have HTR := Lib.hid (fun (w' : World) => track_i d g c t P o w' ho ht hn hcap htm hP1)
  have h3 : (t : Int) * (P : Int) = (o : Int) := by rw [← ho]; rfl
  obtain ⟨RE, RD, RC, HBZ, zz⟩ := boxes3 w #[.slice A e.ds.length n, .slice B' e.cr.length kk, .slice (some ⟨gp, 0, none⟩) e.p.length i, .slice (some ⟨gq, 0, none⟩) e.q.length j] #[.int .i64 d.cyl, .int .i64 d.heads, .int .i64 (P : Int), .int .i64 d.size, .slice (some ⟨g, 0, none⟩) d.secs.length c] #[.slice A2 l.length c2] 28 32 35
  clear h hd hl hX hCA hDA hpt hqt ho
  go_enter Tryz.func64, Tryz.ntmps64
  go_wp2_with (fail)
  generalize ((((w.alloc (.cells #[.slice A e.ds.length n, .slice B' e.cr.length kk, .slice (some ⟨gp, 0, none⟩) e.p.length i, .slice (some ⟨gq, 0, none⟩) e.q.length j] 28)).alloc (.cells #[.int .i64 d.cyl, .int .i64 d.heads, .int .i64 (P : Int), .int .i64 d.size, .slice (some ⟨g, 0, none⟩) d.secs.length c] 32)).alloc (.cells #[.slice A2 l.length c2] 35))) = w3 at *
  have HD2 : Hid (∀ w', Below w3.heap.size w3 w' → w'.cell? ⟨w.heap.size + 1, 2, none⟩ = some (.int .i64 (P : Int))) := Lib.hid fun w' hb => (RD.below hb (by omega)) 2 _ rfl
  have HC2 : Hid (∀ w', Below w3.heap.size w3 w' → w'.cell? ⟨w.heap.size + 2, 0, none⟩ = some (.slice A2 l.length c2)) := Lib.hid fun w' hb => (RC.below hb (by omega)) 0 _ rfl
  have HDD := Lib.hid RD
  have HEE := Lib.hid RE
  have dd2 := HD2.out w3 (Below.refl _ _)
  clear RE RD RC
  go_loopw [20, 9] (fun ii out wr => ∃ (k : Nat) (acc : List Int), k ≤ P ∧ ii = .int .i64 k ∧ acc.length ≤ k ∧ Below w3.heap.size w3 wr ∧ Int64L w3.heap.size wr out acc ∧ Hid (acc = fltN (losB l o) k)) (fun ii _ _ => P - (intOf ii).toNat)
  case atStart => exact ⟨0, [], by omega, rfl, by simp, Below.refl _ _, OwnL.of_nil, Lib.hid rfl⟩
  case round =>
    clear dd2
    obtain ⟨k, acc, hk, rfl, hac, hb, how, HM⟩ := hrel
    have zr := hb.size
    have dd2 := HD2.out wr hb
    have cc0 := HC2.out wr hb
    by_cases hlt : k < P
    · have HO := Lib.hid how
      clear how
      have HK1 := Lib.hid (HKD.out ((o : Int) + (k : Int)) wr (HBZ.trans (hb.mono (by omega))))
      have hcast : ((o : Int) + (k : Int)) = ((o + k : Nat) : Int) := by omega
      cases h4 : (kinN ((o : Int) + (k : Int)) l == 4)
      · cases h0 : (kinN ((o : Int) + (k : Int)) l == 0)
        · have HN := flt_no HM (show losB l o k = false by unfold losB; rw [← hcast, h4, h0]; rfl)
          generalize kinN ((o : Int) + (k : Int)) l = kd at *
          clear hcast
          go_wp2_with (fail)
          refine HK1.out.mono ?_; rintro r w4 ⟨rfl, hb4⟩
          go_wp2_with (fail)
          go_roundw
          case rel => exact ⟨k + 1, acc, by omega, by go_num, by omega, hb.trans (hb4.mono zr), OwnL.below HO.out hb4, HN⟩
          case measure => simp [intOf]; omega
        · have HN := flt_yes HM (show losB l o k = true by unfold losB; rw [← hcast, h4, h0]; rfl)
          generalize kinN ((o : Int) + (k : Int)) l = kd at *
          clear hcast
          go_wp2_with (fail)
          refine HK1.out.mono ?_; rintro r w4 ⟨rfl, hb4⟩
          have z4 := hb4.size
          go_wp2_with (at_builtin; refine stopQ ?_)
          intro _
          refine wpList_app1 icell 1 icell_len _ rfl _ _ _ rfl w3.heap.size 2 i0 (.int .i64 0) 8 Tryz.underlying25 hi hz0 hz1 hz2 rfl (by decide) _ acc rfl (OwnL.alloc (OwnL.below HO.out hb4) _) _ 1 (k : Int) rfl ?_ (by simp [icell, Value.oneCell']) (by omega) (by omega) (by simp; omega) ?_
          · intro j u hu; cases j with | zero => (simp [icell] at hu; subst hu; simp) | succ j => simp [icell] at hu
          intro v' w5 how2 hg2
          go_wp2_with (fail)
          go_roundw
          case rel => exact ⟨k + 1, acc ++ [(k : Int)], by omega, by go_num, by simp; omega, own_grown_below (OwnL.alloc (OwnL.below HO.out hb4) _) ((hb.trans (hb4.mono zr)).alloc (by omega) _) hg2 (Nat.le_refl _) (by simp; omega), how2, HN⟩
          case measure => simp [intOf]; omega
      · have HN := flt_yes HM (show losB l o k = true by unfold losB; rw [← hcast, h4]; rfl)
        generalize kinN ((o : Int) + (k : Int)) l = kd at *
        clear hcast
        go_wp2_with (fail)
        refine HK1.out.mono ?_; rintro r w4 ⟨rfl, hb4⟩
        have z4 := hb4.size
        go_wp2_with (at_builtin; refine stopQ ?_)
        intro _
        refine wpList_app1 icell 1 icell_len _ rfl _ _ _ rfl w3.heap.size 2 i0 (.int .i64 0) 8 Tryz.underlying25 hi hz0 hz1 hz2 rfl (by decide) _ acc rfl (OwnL.alloc (OwnL.below HO.out hb4) _) _ 1 (k : Int) rfl ?_ (by simp [icell, Value.oneCell']) (by omega) (by omega) (by simp; omega) ?_
        · intro j u hu; cases j with | zero => (simp [icell] at hu; subst hu; simp) | succ j => simp [icell] at hu
        intro v' w5 how2 hg2
        go_wp2_with (fail)
        go_roundw
        case rel => exact ⟨k + 1, acc ++ [(k : Int)], by omega, by go_num, by simp; omega, own_grown_below (OwnL.alloc (OwnL.below HO.out hb4) _) ((hb.trans (hb4.mono zr)).alloc (by omega) _) hg2 (Nat.le_refl _) (by simp; omega), how2, HN⟩
        case measure => simp [intOf]; omega
    · obtain rfl : P = k := by omega
      have HMM := Lib.hid HM.out.symm
      rw [HMM.out] at HPcode HPgood HPat
      have HOL := Lib.hid how
      have hld := (HDD.out.below hb (by omega))
      have ld0 := hld 0 _ rfl
      have ld1 := hld 1 _ rfl
      have ld3 := hld 3 _ rfl
      have ld4 := hld 4 _ rfl
      clear how hld HM HMM
      go_wp2_with (fail)
      refine (HTR.out wr).mono ?_; rintro r w4 ⟨rfl, hb4⟩
      have hb3 := hb.trans (hb4.mono zr)
      have HL4 := Lib.hid (OwnL.below HOL.out hb4)
      clear ld0 ld1 ld3 ld4 cc0
      go_wp2_with (fail)
      go_loopw [46, 12] (fun ii out wx => ∃ (q : Nat) (acc : List ByteArray), q ≤ P ∧ ii = .int .i64 q ∧ acc.length = q ∧ Below w4.heap.size w4 wx ∧ StringL w4.heap.size wx out acc ∧ Hid (acc = blkF d o q)) (fun ii _ _ => P - (intOf ii).toNat)
      case atStart => exact ⟨0, [], by omega, rfl, rfl, Below.refl _ _, OwnL.of_nil, Lib.hid (by unfold blkF; simp)⟩
      case round =>
        clear dd2
        obtain ⟨q, bl, hq, rfl, hql, hbx, how, HBL⟩ := hrel
        have zx := hbx.size
        have z3 := hb3.size
        have HBW := HBZ.trans ((hb3.trans (hbx.mono z3)).mono (by omega))
        by_cases hltq : q < P
        · obtain ⟨s, hs⟩ : ∃ s, d.secs[o + q]? = some s := ⟨d.secs[o + q]'(by omega), List.getElem?_eq_getElem (by omega)⟩
          obtain ⟨c0, c1⟩ := HSC.out (o + q) s hs
          have f0 := (HBW.cell (p := ⟨g, _, none⟩) hg).trans c0
          have f1 := (HBW.cell (p := ⟨g, _, none⟩) hg).trans c1
          rw [show (o + q) * 2 + 0 = o * 2 + q * 2 by omega] at f0
          rw [show (o + q) * 2 + 1 = o * 2 + q * 2 + 1 by omega] at f1
          have HN := blk_next hs HBL
          have HO := Lib.hid how
          have HO2 : Hid (StringL w4.heap.size (wr.alloc (.cells #[.string s.data, .int .i64 s.state] 56)) _ bl) := Lib.hid (HO.out.alloc _)
          have HBB : Below w4.heap.size w4 (wr.alloc (.cells #[.string s.data, .int .i64 s.state] 56)) := hbx.alloc zx _
          clear how hs c0 c1
          go_wp2_with (at_builtin; refine stopQ ?_)
          intro _
          refine wpList_app1 scell 1 scell_len _ rfl _ _ _ rfl w4.heap.size 9 s0 (.string .empty) 16 Tryz.underlying26 si sz0 sz1 sz2 rfl (by decide) _ bl rfl (HO2.out.alloc _) _ 1 s.data rfl ?_ (by simp [scell, Value.oneCell']) (by omega) (by omega) (by simp; omega) ?_
          · intro j u hu; cases j with | zero => (simp [scell] at hu; subst hu; first | exact cell_alloc2 _ _ _ _ | simp) | succ j => simp [scell] at hu
          intro v' w5 how2 hg2
          go_wp2_with (fail)
          go_roundw
          case rel => exact ⟨q + 1, bl ++ [s.data], by omega, by go_num, by simp; omega, own_grown_below (HO2.out.alloc _) (HBB.alloc (by simp; omega) _) hg2 (Nat.le_refl _) (by simp; omega), how2, HN⟩
          case measure => simp [intOf]; omega
        · obtain rfl : P = q := by omega
          have HO := Lib.hid how
          have HL5 := Lib.hid (OwnL.below HL4.out hbx)
          have hb5 := hb3.trans (hbx.mono z3)
          have z5 := hb5.size
          have re := HEE.out.below hb5 (by omega)
          have ee2 := re 2 _ rfl
          have ee3 := re 3 _ rfl
          have pp := (HBW.cell (p := ⟨gp, t, none⟩) hgp).trans cp
          have qq := (HBW.cell (p := ⟨gq, t, none⟩) hgq).trans cq
          have HBE := Lib.hid HBL.out.symm
          have HBA := Lib.hid (fun (j : Nat) (s : Sec) (hj : j < P) (hs : d.secs[o + j]? = some s) => blk_at (o := o) (per := P) hj hs)
          rw [HBE.out] at HPcode HPgood HPat HBA
          have HRT := Lib.hid (r2_i _ bl acc pt qt _ _ wr.drew (OwnL.below HO.out (Below.refl _ _).drew) (intsAt_own (OwnL.below HL5.out (Below.refl _ _).drew)) (by omega) (by omega) hps hqs)
          have HLN := Lib.hid (fun (hh : (r2E bl acc pt qt).2 = 0) => r2_out hh)
          obtain ⟨A8, k8, rfl, hA8⟩ := OwnL.shape how
          obtain ⟨g8, rfl, _, hg8⟩ := hA8.resolve_left (by intro e; rw [e] at hql; simp at hql; omega)
          have HB8 := Lib.hid (fun (q : Nat) (s : ByteArray) (hq : bl[q]? = some s) => StringL.at_ HO.out rfl hq)
          have HLS := Lib.hid (OwnL.shape HL5.out)
          obtain ⟨A9, k9, rfl, _⟩ := HLS.out
          generalize r2E bl acc pt qt = G at *
          clear how re hA8 HL4 HL5 HOL HDD HEE HBL HBE
          go_wp2_with (fail)
          rw [hql] at HRT
          go_region_law (go_simp; first | (go_at_call 89; refine HRT.out.mono ?_; rintro r w6 ⟨v6, rfl, ho6, hb6⟩; have HB6 := Lib.hid ((Below.refl wr.heap.size wr).drew.trans hb6); have HO6 := Lib.hid ho6.1; clear ho6 hb6; dsimp only))
          all_goals clear ee2 ee3 pp qq HRT
          all_goals
            have z6 := HB6.out.size
            have hb7 := hb5.trans (HB6.out.mono z5)
            cases hcd : (G.2 == 0)
            · have HF := Lib.hid (HPcode.out hcd)
              have hcd2 := bne_codeF hcd
              go_wp2_with (fail)
              go_ret
              exact ⟨ret_bool HF.out.symm, HBZ.trans (hb7.mono (by omega))⟩
            · have hcd2 := bne_codeT hcd
              have hg1 : G.1.length = P := (HLN.out (by simpa using hcd)).trans hql
              have HPG := Lib.hid (HPgood.out hcd)
              obtain ⟨A6, k6, rfl, hA6⟩ := OwnL.shape HO6.out
              obtain ⟨g6, rfl, _, hg6⟩ := hA6.resolve_left (by intro e; rw [e] at hg1; simp at hg1; omega)
              have HC6 := Lib.hid (fun (q : Nat) (s : ByteArray) (hq : G.1[q]? = some s) => StringL.at_ HO6.out rfl hq)
              have dd6 := HD2.out w6 hb7
              have HC6' := HC6
              have hg86 : g8 < w6.heap.size := by omega
              clear hA6 HPgood HPcode HLN
              rw [hg1]
              go_wp2_with (fail)
              go_loopw [76] (fun ii wx => ∃ q : Nat, q ≤ P ∧ ii = .int .i64 q ∧ Below w6.heap.size w6 wx ∧ Hid (∀ j, j < q → pc j = true)) (fun ii _ => P - (intOf ii).toNat)
              case atStart => exact ⟨0, by omega, rfl, Below.refl _ _, Lib.hid fun j hj => by omega⟩
              case round =>
                clear dd6
                obtain ⟨q, hq, rfl, hbx, HQ⟩ := hrel
                have zx := hbx.size
                have hb9 := hb7.trans (hbx.mono hb7.size)
                by_cases hltq : q < P
                · obtain ⟨s, hs⟩ : ∃ s, d.secs[o + q]? = some s := ⟨d.secs[o + q]'(by omega), List.getElem?_eq_getElem (by omega)⟩
                  obtain ⟨a, ha⟩ : ∃ a, G.1[q]? = some a := ⟨G.1[q]'(by omega), List.getElem?_eq_getElem (by omega)⟩
                  have HAT := Lib.hid (HPat.out q a s hltq ha hs)
                  have HOT := Lib.hid (HPoth.out q)
                  have hcast : ((o + q : Nat) : Int) = ((o : Int) + (q : Int)) := by omega
                  rw [hcast] at HAT HOT
                  have f0 : ∀ x : Wb wr, x.1.cell? ⟨w.heap.size + 1 + 1, 0, none⟩ = some (.slice A2 l.length c2) := fun x => Wb.cell (HC2.out wr hb9) x
                  have f1 : ∀ x : Wb wr, x.1.cell? ⟨w.heap.size + 1, 2, none⟩ = some (.int .i64 (P : Int)) := fun x => Wb.cell (HD2.out wr hb9) x
                  have f2 : ∀ x : Wb wr, x.1.cell? ⟨g6, q, none⟩ = some (.string a) := fun x => Wb.cell ((hbx.cell (p := ⟨g6, q, none⟩) hg6).trans (HC6.out q a ha)) x
                  have f3 : ∀ x : Wb wr, x.1.cell? ⟨g8, q, none⟩ = some (.string s.data) := fun x => Wb.cell ((hbx.cell (p := ⟨g8, q, none⟩) hg86).trans ((HB6.out.cell (p := ⟨g8, q, none⟩) hg8).trans (HB8.out q s.data (HBA.out q s hltq hs)))) x
                  have HK2 : ∀ x : Wb wr, Calls Tryz.prog 22 #[.agg #[.slice A2 l.length c2], .int .i64 ((o : Int) + (q : Int))] x.1 fun r w' => r = .returned (.int .i64 (kinN ((o : Int) + (q : Int)) l)) ∧ Below x.1.heap.size x.1 w' := fun x => HKD.out _ x.1 (HBZ.trans ((hb9.trans (x.2.mono hb9.size)).mono (by omega)))
                  clear hs ha hcast
                  generalize kinN ((o : Int) + (q : Int)) l = kd at *
                  cases h4 : (kd == 4)
                  · have HN : Hid (∀ j, j < q + 1 → pc j = true) := Lib.hid fun j hj => by
                      by_cases e : j = q
                      · subst e; exact HOT.out h4
                      · exact HQ.out j (by omega)
                    go_wp2_with (fail)
                    refine wp_region_wb (by kernel_rfl) (by kernel_rfl) ?_; (repeat (go_big_quiet_step (first | (go_at_call 22; exact Wb.calls (HK2 _))))); refine wpQuiet_nil ?_; rintro w1 ⟨⟨w1', hb1⟩, rfl⟩
                    go_wp2_with (fail)
                    go_roundw
                    case rel => exact ⟨q + 1, by omega, by go_num, hbx.trans (hb1.mono zx), HN⟩
                    case measure => simp [intOf]; omega
                  · cases he : (a.toList == s.data.toList)
                    · have HF := Lib.hid (HPbad.out q hltq (by rw [HAT.out, h4, he]; rfl))
                      have he2 : (a.toList != s.data.toList) = true := by unfold bne; rw [he]; rfl
                      go_wp2_with (fail)
                      refine wp_region_wb (by kernel_rfl) (by kernel_rfl) ?_; (repeat (go_big_quiet_step (first | (go_at_call 22; exact Wb.calls (HK2 _))))); refine wpQuiet_nil ?_; rintro w1 ⟨⟨w1', hb1⟩, rfl⟩
                      go_wp2_with (fail)
                      go_ret
                      exact ⟨ret_bool HF.out.symm, HBZ.trans ((hb9.trans (hb1.mono hb9.size)).mono (by omega))⟩
                    · have he2 : (a.toList != s.data.toList) = false := by unfold bne; rw [he]; rfl
                      have HN : Hid (∀ j, j < q + 1 → pc j = true) := Lib.hid fun j hj => by
                        by_cases e : j = q
                        · subst e; rw [HAT.out, h4, he]; rfl
                        · exact HQ.out j (by omega)
                      go_wp2_with (fail)
                      refine wp_region_wb (by kernel_rfl) (by kernel_rfl) ?_; (repeat (go_big_quiet_step (first | (go_at_call 22; exact Wb.calls (HK2 _))))); refine wpQuiet_nil ?_; rintro w1 ⟨⟨w1', hb1⟩, rfl⟩
                      go_wp2_with (fail)
                      go_roundw
                      case rel => exact ⟨q + 1, by omega, by go_num, hbx.trans (hb1.mono zx), HN⟩
                      case measure => simp [intOf]; omega
                · have HF := Lib.hid (HPG.out (fun j hj => HQ.out j (by omega)))
                  go_wp2_with (fail)
                  go_ret
                  exact ⟨ret_bool HF.out.symm, HBZ.trans (hb9.mono (by omega))⟩
end Go.Proofs.YtddihmpiaemadaaGreatDoor
