/- Parity of a certificate, the reference: the walk. -/
import Derived.Test.YtfcdienphillnaaGreatCk42
namespace Go.Proofs.YtfcdienphillnaaGreat
set_option linter.unusedVariables false
set_option linter.unusedSimpArgs false
open Go.RowKit
set_option maxRecDepth 20000 in
set_option maxHeartbeats 8000000 in
theorem byp_s (B Bd gb gd gc : Nat) (e : Evd) (va vb vc vd : Value) (d : Dsc) (x : Value) (l : List Src) (A2 : Option Addr) (c2 : Nat) (t P o : Nat) (w : World) (hx : EvBox gb w va vb vc vd) (h : EvOwn B w e va vb vc vd) (hdx : Row w gd (dscL d x)) (hgd : gd < w.heap.size) (hd : SecOwn Bd w x d.secs)
    (hcb : w.cell? ⟨gc, 0, none⟩ = some (.slice A2 l.length c2)) (hA2 : SrcAt w A2 l) (hcert : certOk l = true)
    (hP : d.per = P) (hP1 : 1 ≤ P) (hPm : P ≤ 1048576) (ho : t * P = o) (ht : o + P ≤ d.secs.length) (hn : d.secs.length ≤ 1048576) (hll : l.length ≤ 1048576) (htm : t ≤ 1048576)
    (pt qt : ByteArray) (hpt : e.p[t]? = some pt) (hqt : e.q[t]? = some qt) (hps : pt.size ≤ 1048576) (hqs : qt.size ≤ 1048576) (m0 : Nat) (hm0 : m0 < P) (hm1 : losB l o m0 = true) :
    Calls Tryz.prog 81 #[.pointer (some ⟨gb, 0, none⟩), .pointer (some ⟨gd, 0, none⟩), .pointer (some ⟨gc, 0, none⟩), .int .i64 t] w fun r w' => r = .returned (.bool (parC e d l t)) ∧ Below w.heap.size w w' := by
  obtain ⟨i0, hi, hz0, hz1, hz2⟩ := info_parts icell_info
  have hpn : d.per.toNat = P := by rw [hP]; rfl
  have HR : r2T e d l t = r2E (blkF d o P) (fltN (losB l o) P) pt qt := by
    unfold r2T
    rw [hpn, ho, los_flt, show e.p.getD t .empty = pt by rw [List.getD_eq_getElem?_getD, hpt]; rfl, show e.q.getD t .empty = qt by rw [List.getD_eq_getElem?_getD, hqt]; rfl]
  have HPcode := Lib.hid (fun hh => par_code (e := e) (d := d) (l := l) (t := t) hh)
  have HPbad := Lib.hid (fun (j : Nat) hj hh => par_bad1 (e := e) (d := d) (l := l) (t := t) (j := j) hj hh)
  have HPall := Lib.hid (fun hh hj => par_all (e := e) (d := d) (l := l) (t := t) hh hj)
  have HPoth := Lib.hid (fun (j : Nat) hh => pcB_other (e := e) (d := d) (l := l) (t := t) (j := j) hh)
  have HPat := Lib.hid (fun (j : Nat) (a : ByteArray) (s : Sec) hj ha hs => pcB_at (e := e) (d := d) (l := l) (t := t) (j := j) (a := a) (s := s) hj ha hs)
  rw [hpn] at HPbad HPat
  rw [hpn, ho, los_flt] at HPall
  rw [hpn, ho] at HPoth
  rw [ho] at HPat
  generalize hpar : parC e d l t = PC at *
  generalize pcB e d l t = pc at *
  rw [HR] at HPcode HPall HPat
  clear HR hpar hpn
  have HLM := Lib.hid (fun (q : Nat) (xx : Int) (hq : (fltN (losB l o) P)[q]? = some xx) => flt_mem (List.mem_of_getElem? hq))
  have HLN0 : Hid (fltN (losB l o) P ≠ []) := Lib.hid (by
    have := flt_has (n := P) hm0 hm1
    intro e; rw [e] at this; cases this)
  have HREST := Lib.hid (fun (vl : Value) (w' : World) (hb : Below w.heap.size w w') (hl : IntsAt w' vl (fltN (losB l o) P)) => rest_s B Bd gb gd e va vb vc vd d x (fltN (losB l o) P) vl t P o w' (hx.below hb) (h.below hb) (hdx.below hb hgd) (Nat.lt_of_lt_of_le hgd hb.size) (OwnL.below hd hb) hl (Nat.le_trans (flt_len _ _) hPm) hP hP1 hPm ho ht hn htm pt qt hpt hqt hps hqs)
  obtain ⟨X, c, rfl, hX⟩ := OwnL.shape hd
  obtain ⟨g, rfl, _, hg⟩ := hX.resolve_left (by intro e; rw [e] at ht; simp at ht; omega)
  have HSC := Lib.hid (fun (k : Nat) (s : Sec) (hk : d.secs[k]? = some s) => OwnL.cell Sec.len hd hk (j := 0) rfl)
  have hgc := World.block_lt_of_cell? w _ hcb
  have HKD := Lib.hid (fun (q : Int) (w' : World) (hb : Below w.heap.size w w') => kind_s gc c2 A2 l q w' ((hb.cell (p := ⟨gc, 0, none⟩) hgc).trans hcb) (hA2.below hb) hll)
  have HKB := Lib.hid (fun (q : Int) => kinN_cert hcert q)
  have h3 : (t : Int) * (P : Int) = (o : Int) := by rw [← ho]; rfl
  have HD2 : Hid (∀ w', Below w.heap.size w w' → w'.cell? ⟨gd, 2, none⟩ = some (.int .i64 (P : Int))) := Lib.hid fun w' hb => by rw [← hP]; exact (hdx.below hb hgd) 2 _ rfl
  have HD4 : Hid (∀ w', Below w.heap.size w w' → w'.cell? ⟨gd, 4, none⟩ = some (.slice (some ⟨g, 0, none⟩) d.secs.length c)) := Lib.hid fun w' hb => (hdx.below hb hgd) 4 _ rfl
  have hfl := flt_len (losB l o) P
  have HSN := Lib.hid (fun (G : List ByteArray × Int) (h1 : pt.size = 0) (h2 : qt.size = 0) => rsB_none (G := G) h1 h2)
  clear h hd hX hpt hqt ho hx hdx hcb hA2 hcert
  go_enter Tryz.func81, Tryz.ntmps81
  go_wp2_with (fail)
  go_loopw [10, 9] (fun ii out wr => ∃ (k : Nat) (acc : List Int), k ≤ P ∧ ii = .int .i64 k ∧ acc.length ≤ k ∧ Below w.heap.size w wr ∧ Int64L w.heap.size wr out acc ∧ Hid (acc = fltN (losB l o) k)) (fun ii _ _ => P - (intOf ii).toNat)
  case atStart => exact ⟨0, [], by omega, rfl, by simp, Below.alloc (Below.refl _ _) (Nat.le_refl _) _, OwnL.of_empty w (Nat.le_refl _), Lib.hid rfl⟩
  case round =>
    obtain ⟨k, acc, hk, rfl, hac, hb, how, HM⟩ := hrel
    have zr := hb.size
    have dd2 := HD2.out wr hb
    by_cases hlt : k < P
    · have HO := Lib.hid how
      clear how
      have HK1 := Lib.hid (HKD.out ((o : Int) + (k : Int)) wr hb)
      have hcast : ((o : Int) + (k : Int)) = ((o + k : Nat) : Int) := by omega
      cases h0 : (kinN ((o : Int) + (k : Int)) l == 0)
      · cases h4 : (kinN ((o : Int) + (k : Int)) l == 4)
        · have HN := flt_no HM (show losB l o k = false by unfold losB; rw [← hcast, h4, h0]; rfl)
          generalize kinN ((o : Int) + (k : Int)) l = kd at *
          clear hcast
          go_wp2_with (fail)
          refine HK1.out.mono ?_; rintro r w4 ⟨rfl, hb4⟩
          go_wp2_with (fail)
          go_roundw
          case rel => exact ⟨k + 1, acc, by omega, by go_num, by omega, hb.trans (hb4.mono zr), OwnL.below HO.out hb4, HN⟩
          case measure => simp [intOf]; omega
        · have HN := flt_yes HM (show losB l o k = true by unfold losB; rw [← hcast, h4]; rfl)
          generalize kinN ((o : Int) + (k : Int)) l = kd at *
          clear hcast
          go_wp2_with (fail)
          refine HK1.out.mono ?_; rintro r w4 ⟨rfl, hb4⟩
          have z4 := hb4.size
          go_wp2_with (at_builtin; refine stopQ ?_)
          intro _
          refine wpList_app1 icell 1 icell_len _ rfl _ _ _ rfl w.heap.size 2 i0 (.int .i64 0) 8 Tryz.underlying23 hi hz0 hz1 hz2 rfl (by decide) _ acc rfl (OwnL.alloc (OwnL.below HO.out hb4) _) _ 1 (k : Int) rfl ?_ (by simp [icell, Value.oneCell']) (by omega) (by omega) (by simp; omega) ?_
          · intro j u hu; cases j with | zero => (simp [icell] at hu; subst hu; simp) | succ j => simp [icell] at hu
          intro v' w5 how2 hg2
          go_wp2_with (fail)
          go_roundw
          case rel => exact ⟨k + 1, acc ++ [(k : Int)], by omega, by go_num, by simp; omega, own_grown_below (OwnL.alloc (OwnL.below HO.out hb4) _) ((hb.trans (hb4.mono zr)).alloc (by omega) _) hg2 (Nat.le_refl _) (by simp; omega), how2, HN⟩
          case measure => simp [intOf]; omega
      · have HN := flt_yes HM (show losB l o k = true by unfold losB; rw [← hcast, h0, Bool.or_true])
        generalize kinN ((o : Int) + (k : Int)) l = kd at *
        clear hcast
        go_wp2_with (fail)
        refine HK1.out.mono ?_; rintro r w4 ⟨rfl, hb4⟩
        have z4 := hb4.size
        go_wp2_with (at_builtin; refine stopQ ?_)
        intro _
        refine wpList_app1 icell 1 icell_len _ rfl _ _ _ rfl w.heap.size 2 i0 (.int .i64 0) 8 Tryz.underlying23 hi hz0 hz1 hz2 rfl (by decide) _ acc rfl (OwnL.alloc (OwnL.below HO.out hb4) _) _ 1 (k : Int) rfl ?_ (by simp [icell, Value.oneCell']) (by omega) (by omega) (by simp; omega) ?_
        · intro j u hu; cases j with | zero => (simp [icell] at hu; subst hu; simp) | succ j => simp [icell] at hu
        intro v' w5 how2 hg2
        go_wp2_with (fail)
        go_roundw
        case rel => exact ⟨k + 1, acc ++ [(k : Int)], by omega, by go_num, by simp; omega, own_grown_below (OwnL.alloc (OwnL.below HO.out hb4) _) ((hb.trans (hb4.mono zr)).alloc (by omega) _) hg2 (Nat.le_refl _) (by simp; omega), how2, HN⟩
        case measure => simp [intOf]; omega
    · obtain rfl : P = k := by omega
      have HMM := Lib.hid HM.out.symm
      rw [HMM.out] at HPcode HPall HPat HLM HLN0 HREST
      have HOL := Lib.hid how
      have HRS := Lib.hid (HREST.out _ wr hb (intsAt_own how))
      obtain ⟨A9, k9, rfl, hA9⟩ := OwnL.shape how
      obtain ⟨g9, rfl, _, hg9⟩ := hA9.resolve_left HLN0.out
      have HL9 := Lib.hid (fun (q : Nat) (s : Int) (hq : acc[q]? = some s) => Int64L.at_ HOL.out rfl hq)
      have HNN := Lib.hid (fun (h1 : pt.size = 0) (h2 : qt.size = 0) => r2_none (bl := blkF d o P) h1 h2 HLN0.out)
      have hRP : (rsB pt qt (r2E (blkF d o P) acc pt qt) = true → ((r2E (blkF d o P) acc pt qt).2 == 0) = true) := by
        intro hh; unfold rsB at hh; rw [Bool.and_eq_true] at hh; exact hh.2
      have hRN : (rsB pt qt (r2E (blkF d o P) acc pt qt) = false → ((r2E (blkF d o P) acc pt qt).2 == 0) = false) := by
        intro hh; unfold rsB at hh
        rw [Bool.and_eq_false_iff] at hh
        rcases hh with hh | hh
        · rw [Bool.not_eq_false', Bool.and_eq_true] at hh; exact HNN.out (of_decide_eq_true hh.1) (of_decide_eq_true hh.2)
        · exact hh
      have HRP := Lib.hid hRP
      have HRN := Lib.hid hRN
      have HLN := Lib.hid (fun (hh : (r2E (blkF d o P) acc pt qt).2 = 0) => r2_out hh)
      have HBK := blk_len (d := d) (o := o) (per := P) ht
      rw [HBK] at HLN
      generalize rsB pt qt (r2E (blkF d o P) acc pt qt) = ok at *
      generalize r2E (blkF d o P) acc pt qt = G at *
      clear how HREST HM HMM hA9 hRP hRN HNN HSN HLN0
      go_wp2_with (fail)
      refine HRS.out.mono ?_; rintro r w6 ⟨v6, rfl, hg6, hb6⟩
      have HG6 := Lib.hid hg6
      have z6 := hb6.size
      have hb7 := hb.trans (hb6.mono zr)
      clear hg6 HRS
      go_wp2_with (fail)
      go_loopw [14, 13] (fun ii okv wx => ∃ (q : Nat) (b : Bool), q ≤ acc.length ∧ ii = .int .i64 q ∧ okv = .bool b ∧ Below w6.heap.size w6 wx ∧ Hid (b = true → ok = true ∧ ∀ (i : Nat) (xx : Int), i < q → acc[i]? = some xx → pc xx.toNat = true) ∧ Hid (b = false → PC = false)) (fun ii _ _ => acc.length - (intOf ii).toNat)
      case atStart => exact ⟨0, ok, by omega, rfl, rfl, Below.refl _ _, Lib.hid fun hh => ⟨hh, fun i xx hi => by omega⟩, Lib.hid fun hh => HPcode.out (HRN.out hh)⟩
      case round =>
        clear dd2
        obtain ⟨q, b, hq, rfl, rfl, hbx, HT, HFF⟩ := hrel
        have zx := hbx.size
        have hb9 := hb7.trans (hbx.mono hb7.size)
        cases b
        · have HF := Lib.hid (HFF.out rfl)
          by_cases hltq : q < acc.length
          · go_wp2_with (fail)
            go_ret
            exact ⟨ret_bool HF.out.symm, hb9⟩
          · go_wp2_with (fail)
            go_ret
            exact ⟨ret_bool HF.out.symm, hb9⟩
        · obtain ⟨hok, hall⟩ := HT.out rfl
          have HALL := Lib.hid hall
          subst hok
          by_cases hltq : q < acc.length
          · obtain ⟨xx, hxx⟩ : ∃ xx, acc[q]? = some xx := ⟨acc[q], List.getElem?_eq_getElem hltq⟩
            obtain ⟨j, rfl, hjP, hjl⟩ := HLM.out q xx hxx
            obtain ⟨s, hs⟩ : ∃ s, d.secs[o + j]? = some s := ⟨d.secs[o + j]'(by omega), List.getElem?_eq_getElem (by omega)⟩
            have hgl : G.1.length = P := HLN.out (by have := HRP.out rfl; simpa using this)
            obtain ⟨a, ha⟩ : ∃ a, G.1[j]? = some a := ⟨G.1[j]'(by omega), List.getElem?_eq_getElem (by omega)⟩
            have HAT := Lib.hid (HPat.out j a s hjP ha hs)
            have HOT := Lib.hid (HPoth.out j)
            obtain ⟨oj, hoj⟩ : ∃ oj, oj = o + j := ⟨_, rfl⟩
            have hcast : ((o : Int) + (j : Int)) = (oj : Int) := by omega
            have hi1 : (oj : Int) < (d.secs.length : Int) := by omega
            have hi2 : oj < d.secs.length := by omega
            have hw1 : IntKind.i64.wrap (o : Int) = (o : Int) := by rw [IntKind.wrap_i64]; omega
            have hw2 : IntKind.i64.wrap (oj : Int) = (oj : Int) := by rw [IntKind.wrap_i64]; omega
            rw [← hoj] at HAT HOT hs
            have hkb := HKB.out (oj : Int)
            have hkz : (kinN (oj : Int) l == 4) = true ∨ (kinN (oj : Int) l == 0) = true := by
              unfold losB at hjl; rw [← hoj, Bool.or_eq_true] at hjl; exact hjl
            have HALN : Hid (pc j = true → ∀ (i : Nat) (xx : Int), i < q + 1 → acc[i]? = some xx → pc xx.toNat = true) := Lib.hid fun hpj i xx hi hxi => by
              by_cases e : i = q
              · subst e
                rw [hxx] at hxi
                obtain rfl := Option.some.inj hxi
                simpa using hpj
              · exact HALL.out i xx (by omega) hxi
            obtain ⟨A6, k6, rfl, hA6⟩ := OwnL.shape (HG6.out rfl)
            obtain ⟨g6, rfl, _, hg6⟩ := hA6.resolve_left (by intro e; rw [e] at hgl; simp at hgl; omega)
            have e1 := (hbx.cell (p := ⟨g9, q, none⟩) (by show g9 < w6.heap.size; omega)).trans ((hb6.cell (p := ⟨g9, q, none⟩) hg9).trans (HL9.out q _ hxx))
            have e2 := HD2.out wr hb9
            have hz9 := hb9.size
            have HFA : Hid (∀ w2, Below wr.heap.size wr w2 → Below w.heap.size w w2 ∧ w2.cell? ⟨g9, q, none⟩ = some (.int .i64 (j : Int)) ∧ w2.cell? ⟨gd, 2, none⟩ = some (.int .i64 (P : Int)) ∧ w2.cell? ⟨gd, 4, none⟩ = some (.slice (some ⟨g, 0, none⟩) d.secs.length c) ∧ w2.cell? ⟨g, oj * 2, none⟩ = some (.string s.data) ∧ w2.cell? ⟨g6, j, none⟩ = some (.string a)) := Lib.hid fun w2 hb2 => by
              have hbz := hb9.trans (hb2.mono hz9)
              exact ⟨hbz, (hb2.cell (p := ⟨g9, q, none⟩) (by show g9 < wr.heap.size; omega)).trans e1, HD2.out w2 hbz, HD4.out w2 hbz, (hbz.cell (p := ⟨g, _, none⟩) hg).trans (HSC.out oj s hs), (hb2.cell (p := ⟨g6, j, none⟩) (by show g6 < wr.heap.size; omega)).trans ((hbx.cell (p := ⟨g6, j, none⟩) hg6).trans (StringL.at_ (HG6.out rfl) rfl ha))⟩
            clear hs ha hxx hA6 hoj hjl HPoth HPat HL9
            rw [hgl]
            generalize hkd : kinN (oj : Int) l = kd at *
            cases h0 : (kd == 0)
            · have h4 : (kd == 4) = true := by rcases hkz with h | h; exact h; rw [h] at h0; cases h0
              cases he : (a.toList == s.data.toList)
              · have HF := Lib.hid (HPbad.out j hjP (by rw [HAT.out, h4, he]; rfl))
                go_wp2_with (fail)
                go_quiet (fail)
                go_wp2_with (fail)
                have hbn : Below wr.heap.size wr (wr.drewN nq) := below_drewNQ (Below.refl _ _) nq
                have hzn : wr.heap.size ≤ (wr.drewN nq).heap.size := hbn.size
                generalize wr.drewN nq = W2 at *
                obtain ⟨y0, y1, y2, y4, y5, y6⟩ := HFA.out W2 hbn
                have f1 : ∀ x : Wb W2, x.1.cell? ⟨g9, q, none⟩ = some (.int .i64 (j : Int)) := fun x => Wb.cell y1 x
                have f2 : ∀ x : Wb W2, x.1.cell? ⟨gd, 2, none⟩ = some (.int .i64 (P : Int)) := fun x => Wb.cell y2 x
                have f4 : ∀ x : Wb W2, x.1.cell? ⟨gd, 4, none⟩ = some (.slice (some ⟨g, 0, none⟩) d.secs.length c) := fun x => Wb.cell y4 x
                have f5 : ∀ x : Wb W2, x.1.cell? ⟨g, oj * 2, none⟩ = some (.string s.data) := fun x => Wb.cell y5 x
                have f6 : ∀ x : Wb W2, x.1.cell? ⟨g6, j, none⟩ = some (.string a) := fun x => Wb.cell y6 x
                have HK2 : ∀ x : Wb W2, Calls Tryz.prog 58 #[.pointer (some ⟨gc, 0, none⟩), .int .i64 (oj : Int)] x.1 fun r w' => r = .returned (.int .i64 kd) ∧ Below x.1.heap.size x.1 w' := fun x => by rw [← hkd]; exact HKD.out _ x.1 (y0.trans (x.2.mono y0.size))
                clear y1 y2 y4 y5 y6
                refine wp_region_wb (by kernel_rfl) (by kernel_rfl) ?_; (repeat (go_big_quiet_step (first | (go_at_call 58; exact Wb.calls (HK2 _))))); refine wpQuiet_nil ?_; rintro w1 ⟨⟨w1', hb1⟩, rfl⟩
                go_wp2_with (fail)
                go_roundw
                case rel => exact ⟨q + 1, false, by omega, by go_num, rfl, hbx.trans ((hbn.trans (hb1.mono hzn)).mono zx), Lib.hid (fun hh => by cases hh), Lib.hid (fun _ => HF.out)⟩
                case measure => simp [intOf]; omega
              · have HN := Lib.hid (HALN.out (by rw [HAT.out, h4, he]; rfl))
                go_wp2_with (fail)
                go_quiet (fail)
                go_wp2_with (fail)
                have hbn : Below wr.heap.size wr (wr.drewN nq) := below_drewNQ (Below.refl _ _) nq
                have hzn : wr.heap.size ≤ (wr.drewN nq).heap.size := hbn.size
                generalize wr.drewN nq = W2 at *
                obtain ⟨y0, y1, y2, y4, y5, y6⟩ := HFA.out W2 hbn
                have f1 : ∀ x : Wb W2, x.1.cell? ⟨g9, q, none⟩ = some (.int .i64 (j : Int)) := fun x => Wb.cell y1 x
                have f2 : ∀ x : Wb W2, x.1.cell? ⟨gd, 2, none⟩ = some (.int .i64 (P : Int)) := fun x => Wb.cell y2 x
                have f4 : ∀ x : Wb W2, x.1.cell? ⟨gd, 4, none⟩ = some (.slice (some ⟨g, 0, none⟩) d.secs.length c) := fun x => Wb.cell y4 x
                have f5 : ∀ x : Wb W2, x.1.cell? ⟨g, oj * 2, none⟩ = some (.string s.data) := fun x => Wb.cell y5 x
                have f6 : ∀ x : Wb W2, x.1.cell? ⟨g6, j, none⟩ = some (.string a) := fun x => Wb.cell y6 x
                have HK2 : ∀ x : Wb W2, Calls Tryz.prog 58 #[.pointer (some ⟨gc, 0, none⟩), .int .i64 (oj : Int)] x.1 fun r w' => r = .returned (.int .i64 kd) ∧ Below x.1.heap.size x.1 w' := fun x => by rw [← hkd]; exact HKD.out _ x.1 (y0.trans (x.2.mono y0.size))
                clear y1 y2 y4 y5 y6
                refine wp_region_wb (by kernel_rfl) (by kernel_rfl) ?_; (repeat (go_big_quiet_step (first | (go_at_call 58; exact Wb.calls (HK2 _))))); refine wpQuiet_nil ?_; rintro w1 ⟨⟨w1', hb1⟩, rfl⟩
                go_wp2_with (fail)
                go_roundw
                case rel => exact ⟨q + 1, true, by omega, by go_num, rfl, hbx.trans ((hbn.trans (hb1.mono hzn)).mono zx), Lib.hid (fun _ => ⟨trivial, HN.out⟩), Lib.hid (fun hh => by cases hh)⟩
                case measure => simp [intOf]; omega
            · have HN := Lib.hid (HALN.out (HOT.out (by have := eq_of_beq h0; rw [this]; rfl)))
              go_wp2_with (fail)
              go_quiet (fail)
              go_wp2_with (fail)
              have hbn : Below wr.heap.size wr (wr.drewN nq) := below_drewNQ (Below.refl _ _) nq
              have hzn : wr.heap.size ≤ (wr.drewN nq).heap.size := hbn.size
              generalize wr.drewN nq = W2 at *
              obtain ⟨y0, y1, y2, y4, y5, y6⟩ := HFA.out W2 hbn
              have f1 : ∀ x : Wb W2, x.1.cell? ⟨g9, q, none⟩ = some (.int .i64 (j : Int)) := fun x => Wb.cell y1 x
              have f2 : ∀ x : Wb W2, x.1.cell? ⟨gd, 2, none⟩ = some (.int .i64 (P : Int)) := fun x => Wb.cell y2 x
              have f4 : ∀ x : Wb W2, x.1.cell? ⟨gd, 4, none⟩ = some (.slice (some ⟨g, 0, none⟩) d.secs.length c) := fun x => Wb.cell y4 x
              have f5 : ∀ x : Wb W2, x.1.cell? ⟨g, oj * 2, none⟩ = some (.string s.data) := fun x => Wb.cell y5 x
              have f6 : ∀ x : Wb W2, x.1.cell? ⟨g6, j, none⟩ = some (.string a) := fun x => Wb.cell y6 x
              have HK2 : ∀ x : Wb W2, Calls Tryz.prog 58 #[.pointer (some ⟨gc, 0, none⟩), .int .i64 (oj : Int)] x.1 fun r w' => r = .returned (.int .i64 kd) ∧ Below x.1.heap.size x.1 w' := fun x => by rw [← hkd]; exact HKD.out _ x.1 (y0.trans (x.2.mono y0.size))
              clear y1 y2 y4 y5 y6
              refine wp_region_wb (by kernel_rfl) (by kernel_rfl) ?_; (repeat (go_big_quiet_step (first | (go_at_call 58; exact Wb.calls (HK2 _))))); refine wpQuiet_nil ?_; rintro w1 ⟨⟨w1', hb1⟩, rfl⟩
              go_wp2_with (fail)
              go_roundw
              case rel => exact ⟨q + 1, true, by omega, by go_num, rfl, hbx.trans ((hbn.trans (hb1.mono hzn)).mono zx), Lib.hid (fun _ => ⟨trivial, HN.out⟩), Lib.hid (fun hh => by cases hh)⟩
              case measure => simp [intOf]; omega
          · have HF := Lib.hid (HPall.out (HRP.out rfl) (fun i xx hi => HALL.out i xx (by have := (List.getElem?_eq_some_iff.1 hi).1; omega) hi))
            go_wp2_with (fail)
            go_ret
            exact ⟨ret_bool HF.out.symm, hb9⟩
end Go.Proofs.YtfcdienphillnaaGreat
