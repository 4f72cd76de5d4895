/- The blocks of a track restored, the implementation: the walk. -/
import Derived.Test.YtddihmpiaemadaaGreatDoorFc25
namespace Go.Proofs.YtddihmpiaemadaaGreatDoor
set_option linter.unusedVariables false
set_option linter.unusedSimpArgs false
open Go.RowKit
set_option maxRecDepth 20000 in
set_option maxHeartbeats 8000000 in
theorem rest_i (B Bd : Nat) (e : Evd) (va vb vc vd : Value) (d : Dsc) (x : Value) (L : List Int) (vl : Value) (t P o : Nat) (w : World) (h : EvOwn B w e va vb vc vd) (hd : SecOwn Bd w x d.secs) (hl : IntsAt w vl L) (hLn : L.length ≤ 1048576)
    (hP : d.per = P) (hP1 : 1 ≤ P) (hPm : P ≤ 1048576) (ho : t * P = o) (ht : o + P ≤ d.secs.length) (hn : d.secs.length ≤ 1048576) (htm : t ≤ 1048576)
    (pt qt : ByteArray) (hpt : e.p[t]? = some pt) (hqt : e.q[t]? = some qt) (hps : pt.size ≤ 1048576) (hqs : qt.size ≤ 1048576) :
    Calls Tryz.prog 82 #[evV va vb vc vd, dscV d x, .int .i64 t, vl] w fun r w' => ∃ v', r = .returned (.tuple #[v', .bool (rsB pt qt (r2E (blkF d o P) L pt qt))]) ∧ (rsB pt qt (r2E (blkF d o P) L pt qt) = true → StringL w.heap.size w' v' (r2E (blkF d o P) L pt qt).1) ∧ Below w.heap.size w w' := by
  obtain ⟨s0, si, sz0, sz1, sz2⟩ := info_parts scell_info
  obtain ⟨A, n, B', kk, C, i, D, j, rfl, rfl, rfl, rfl⟩ := h.shape
  obtain ⟨X, c, rfl, hX⟩ := OwnL.shape hd
  obtain ⟨g, rfl, _, hg⟩ := hX.resolve_left (by intro e; rw [e] at ht; simp at ht; omega)
  have hcap := own_cap hd
  obtain ⟨Cp, ip, hCp, hCA⟩ := OwnL.shape h.p
  injection hCp with e1 _ e2
  subst e1 e2
  obtain ⟨gp, rfl, _, hgp⟩ := hCA.resolve_left (by intro e; rw [e] at hpt; cases hpt)
  obtain ⟨Dq, jq, hDq, hDA⟩ := OwnL.shape h.q
  injection hDq with e1 _ e2
  subst e1 e2
  obtain ⟨gq, rfl, _, hgq⟩ := hDA.resolve_left (by intro e; rw [e] at hqt; cases hqt)
  have cp := StringL.at_ h.p rfl hpt
  have cq := StringL.at_ h.q rfl hqt
  have htp : t < e.p.length := (List.getElem?_eq_some_iff.1 hpt).1
  have htq : t < e.q.length := (List.getElem?_eq_some_iff.1 hqt).1
  have h3 : (t : Int) * (P : Int) = (o : Int) := by rw [← ho]; rfl
  have HSC := Lib.hid (fun (k : Nat) (s : Sec) (hk : d.secs[k]? = some s) => And.intro (OwnL.cell Sec.len hd hk (j := 0) rfl) (OwnL.cell Sec.len hd hk (j := 1) rfl))
  have HTR := Lib.hid (fun (w' : World) => track_i d g c t P o w' ho ht hn hcap htm hP1)
  have HIL := Lib.hid (show ∀ w', Below w.heap.size w w' → IntsAt w' vl L from fun w' hb => by
    obtain ⟨A', c', rfl, hA'⟩ := hl
    refine ⟨_, _, rfl, hA'.imp id ?_⟩
    rintro ⟨g, rfl, hg, hc⟩
    exact ⟨g, rfl, Nat.lt_of_lt_of_le hg hb.size, fun k x hk => (hb.cell (p := ⟨g, k, none⟩) hg).trans (hc k x hk)⟩)
  obtain ⟨Al, cl, rfl, _⟩ := hl
  obtain ⟨RE, RD, _, HBZ, zz⟩ := boxes2 w #[.slice A e.ds.length n, .slice B' e.cr.length kk, .slice (some ⟨gp, 0, none⟩) e.p.length i, .slice (some ⟨gq, 0, none⟩) e.q.length j] #[.int .i64 d.cyl, .int .i64 d.heads, .int .i64 (P : Int), .int .i64 d.size, .slice (some ⟨g, 0, none⟩) d.secs.length c] 28 32
  have HCL : Hid (∀ w', Below (((w.alloc (.cells #[.slice A e.ds.length n, .slice B' e.cr.length kk, .slice (some ⟨gp, 0, none⟩) e.p.length i, .slice (some ⟨gq, 0, none⟩) e.q.length j] 28)).alloc (.cells #[.int .i64 d.cyl, .int .i64 d.heads, .int .i64 (P : Int), .int .i64 d.size, .slice (some ⟨g, 0, none⟩) d.secs.length c] 32))).heap.size ((w.alloc (.cells #[.slice A e.ds.length n, .slice B' e.cr.length kk, .slice (some ⟨gp, 0, none⟩) e.p.length i, .slice (some ⟨gq, 0, none⟩) e.q.length j] 28)).alloc (.cells #[.int .i64 d.cyl, .int .i64 d.heads, .int .i64 (P : Int), .int .i64 d.size, .slice (some ⟨g, 0, none⟩) d.secs.length c] 32)) w' → Row w' (w.heap.size + 1) [.int .i64 d.cyl, .int .i64 d.heads, .int .i64 (P : Int), .int .i64 d.size, .slice (some ⟨g, 0, none⟩) d.secs.length c] ∧ (w'.cell? ⟨w.heap.size, 2, none⟩ = some (.slice (some ⟨gp, 0, none⟩) e.p.length i) ∧ w'.cell? ⟨w.heap.size, 3, none⟩ = some (.slice (some ⟨gq, 0, none⟩) e.q.length j) ∧ w'.cell? ⟨gp, t, none⟩ = some (.string pt) ∧ w'.cell? ⟨gq, t, none⟩ = some (.string qt)) ∧ Below w.heap.size w w') := Lib.hid fun w' hb => by
    have hbw := HBZ.trans (hb.mono (by rw [zz]; omega))
    have re := RE.below hb (by rw [zz]; omega)
    exact ⟨RD.below hb (by rw [zz]; omega), ⟨re 2 _ rfl, re 3 _ rfl, (hbw.cell (p := ⟨gp, t, none⟩) hgp).trans cp, (hbw.cell (p := ⟨gq, t, none⟩) hgq).trans cq⟩, hbw⟩
  have hdv : dscV d (.slice (some ⟨g, 0, none⟩) d.secs.length c) = .agg #[.int .i64 d.cyl, .int .i64 d.heads, .int .i64 (P : Int), .int .i64 d.size, .slice (some ⟨g, 0, none⟩) d.secs.length c] := by rw [← hP]
  rw [hdv]
  clear hdv hP
  by_cases hboth : pt.size = 0 ∧ qt.size = 0
  · have HF := Lib.hid (rsB_none (G := r2E (blkF d o P) L pt qt) hboth.1 hboth.2)
    have h1 := emp_nil hboth.1
    have h2 := emp_nil hboth.2
    have h1' : pt.toList.isEmpty = true := by rw [h1]; rfl
    have h2' : qt.toList.isEmpty = true := by rw [h2]; rfl
    obtain ⟨_, ⟨s2, s3, s4, s5⟩, BW⟩ := HCL.out _ (Below.refl _ _)
    clear h hd hX hCA hDA hpt hqt ho hboth RE RD
    go_enter Tryz.func82, Tryz.ntmps82
    go_wp2_with (fail)
    exact bodyPost_ret (v := .tuple #[.slice none 0 0, .bool false]) (by simp [results, Tryz.results82, go_sem] <;> rfl) rfl ⟨.slice none 0 0, by rw [HF.out], (fun hh => by rw [HF.out] at hh; cases hh), BW⟩
  · have HF : Hid (rsB pt qt (r2E (blkF d o P) L pt qt) = ((r2E (blkF d o P) L pt qt).2 == 0)) := Lib.hid (by
      by_cases e : pt.size = 0
      · exact rsB_q (fun e2 => hboth ⟨e, e2⟩)
      · exact rsB_p e)
    have HE : (pt.toList = [] ∧ pt.toList.isEmpty = true ∧ ¬ qt.toList = [] ∧ qt.toList.isEmpty = false) ∨ (¬ pt.toList = [] ∧ pt.toList.isEmpty = false) := by
      by_cases e : pt.size = 0
      · have h1 := emp_nil e
        have h2 := emp_ne (s := qt) (fun e2 => hboth ⟨e, e2⟩)
        exact .inl ⟨h1, by rw [h1]; rfl, h2, by simpa using h2⟩
      · have h1 := emp_ne e
        exact .inr ⟨h1, by simpa using h1⟩
    obtain ⟨rd, ⟨s2, s3, s4, s5⟩, BW⟩ := HCL.out _ (Below.refl _ _)
    have ld0 := rd 0 _ rfl
    have ld1 := rd 1 _ rfl
    have ld2 := rd 2 _ rfl
    have ld3 := rd 3 _ rfl
    have ld4 := rd 4 _ rfl
    clear h hd hX hCA hDA hpt hqt ho hboth RE RD rd
    go_enter Tryz.func82, Tryz.ntmps82
    rcases HE with ⟨h1, h1', h2, h2'⟩ | ⟨h1, h1'⟩
    all_goals go_wp2_with (fail)
    all_goals
      generalize ((w.alloc (.cells #[.slice A e.ds.length n, .slice B' e.cr.length kk, .slice (some ⟨gp, 0, none⟩) e.p.length i, .slice (some ⟨gq, 0, none⟩) e.q.length j] 28)).alloc (.cells #[.int .i64 d.cyl, .int .i64 d.heads, .int .i64 (P : Int), .int .i64 d.size, .slice (some ⟨g, 0, none⟩) d.secs.length c] 32)) = w0 at *
      refine (HTR.out w0).mono ?_; rintro r w4 ⟨rfl, hb4⟩
      clear ld0 ld1 ld2 ld3 ld4 s2 s3 s4 s5 HTR
      go_wp2_with (fail)
      go_loopw [33, 10] (fun ii out wx => ∃ (q : Nat) (acc : List ByteArray), q ≤ P ∧ ii = .int .i64 q ∧ acc.length = q ∧ Below w0.heap.size w0 wx ∧ StringL w0.heap.size wx out acc ∧ Hid (acc = blkF d o q)) (fun ii _ _ => P - (intOf ii).toNat)
      case atStart => exact ⟨0, [], by omega, rfl, rfl, hb4, OwnL.of_nil, Lib.hid (by unfold blkF; simp)⟩
      case round =>
        obtain ⟨q, bl, hq, rfl, hql, hbx, how, HBL⟩ := hrel
        have zx := hbx.size
        obtain ⟨_, ⟨s2, s3, s4, s5⟩, HBW⟩ := HCL.out wr hbx
        by_cases hltq : q < P
        · obtain ⟨s, hs⟩ : ∃ s, d.secs[o + q]? = some s := ⟨d.secs[o + q]'(by omega), List.getElem?_eq_getElem (by omega)⟩
          obtain ⟨c0, c1⟩ := HSC.out (o + q) s hs
          have f0 := (HBW.cell (p := ⟨g, _, none⟩) hg).trans c0
          have f1 := (HBW.cell (p := ⟨g, _, none⟩) hg).trans c1
          rw [show (o + q) * 2 + 0 = o * 2 + q * 2 by omega] at f0
          rw [show (o + q) * 2 + 1 = o * 2 + q * 2 + 1 by omega] at f1
          have HN := blk_next hs HBL
          have HO2 : Hid (StringL w0.heap.size (wr.alloc (.cells #[.string s.data, .int .i64 s.state] 56)) _ bl) := Lib.hid (how.alloc _)
          have HBB : Below w0.heap.size w0 (wr.alloc (.cells #[.string s.data, .int .i64 s.state] 56)) := hbx.alloc zx _
          clear how hs c0 c1 s2 s3 s4 s5
          go_wp2_with (at_builtin; refine stopQ ?_)
          intro _
          refine wpList_app1 scell 1 scell_len _ rfl _ _ _ rfl w0.heap.size 9 s0 (.string .empty) 16 Tryz.underlying26 si sz0 sz1 sz2 rfl (by decide) _ bl rfl (HO2.out.alloc _) _ 1 s.data rfl ?_ (by simp [scell, Value.oneCell']) (by omega) (by omega) (by simp; omega) ?_
          · intro j u hu; cases j with | zero => (simp [scell] at hu; subst hu; first | exact cell_alloc2 _ _ _ _ | simp) | succ j => simp [scell] at hu
          intro v' w5 how2 hg2
          go_wp2_with (fail)
          go_roundw
          case rel => exact ⟨q + 1, bl ++ [s.data], by omega, by go_num, by simp; omega, own_grown_below (HO2.out.alloc _) (HBB.alloc (by simp; omega) _) hg2 (Nat.le_refl _) (by simp; omega), how2, HN⟩
          case measure => simp [intOf]; omega
        · obtain rfl : P = q := by omega
          have HO := Lib.hid how
          have HBE := Lib.hid HBL.out.symm
          have HK6 : Hid (∀ w', Below wr.drew.heap.size wr.drew w' → w'.cell? ⟨w.heap.size, 2, none⟩ = some (.slice (some ⟨gp, 0, none⟩) e.p.length i) ∧ w'.cell? ⟨w.heap.size, 3, none⟩ = some (.slice (some ⟨gq, 0, none⟩) e.q.length j) ∧ w'.cell? ⟨gp, t, none⟩ = some (.string pt) ∧ w'.cell? ⟨gq, t, none⟩ = some (.string qt)) := Lib.hid fun w' hb => (HCL.out w' ((hbx.drew).trans (hb.mono zx))).2.1
          have HEQ : r2E (blkF d o P) L pt qt = r2E bl L pt qt := by rw [HBE.out]
          rw [HEQ] at HF
          have HRT := Lib.hid (r2_i _ bl L pt qt _ _ wr.drew (OwnL.below HO.out (Below.refl _ _).drew) (HIL.out wr.drew HBW.drew) (by omega) (by omega) hps hqs)
          have HLN := Lib.hid (fun (hh : (r2E bl L pt qt).2 = 0) => r2_out hh)
          obtain ⟨A8, k8, rfl, hA8⟩ := OwnL.shape how
          rw [hql] at HRT
          generalize r2E bl L pt qt = G at *
          have HEQ := Lib.hid HEQ
          clear how hA8 HBL HBE HIL
          go_wp2_with (fail)
          go_region_held3 (fun w' => w'.cell? ⟨w.heap.size, 2, none⟩ = some (.slice (some ⟨gp, 0, none⟩) e.p.length i) ∧ w'.cell? ⟨w.heap.size, 3, none⟩ = some (.slice (some ⟨gq, 0, none⟩) e.q.length j) ∧ w'.cell? ⟨gp, t, none⟩ = some (.string pt) ∧ w'.cell? ⟨gq, t, none⟩ = some (.string qt))
            (first | exact ⟨s2, s3, s4, s5⟩ | exact HK6.out _ hb6)
            (first | (go_at_call 89; refine HRT.out.mono ?_; rintro r w6 ⟨v6, rfl, ho6, hb6⟩; have HB6 := Lib.hid ((Below.refl wr.heap.size wr).drew.trans hb6); have HO6 := Lib.hid ho6.1))
          clear ho6 hb6
          clear s2 s3 s4 s5 HRT HK6
          have z6 := HB6.out.size
          have hb7 := HBW.trans (HB6.out.mono HBW.size)
          obtain ⟨A6, k6, rfl, _⟩ := OwnL.shape HO6.out
          cases hcd : (G.2 == 0)
          · rw [hcd] at HF
            go_wp2_with (fail)
            exact bodyPost_ret (v := .tuple #[.slice A6 G.1.length k6, .bool false]) (by simp [results, Tryz.results82, go_sem] <;> rfl) rfl ⟨.slice A6 G.1.length k6, by rw [HEQ.out, HF.out], (fun hh => by rw [HEQ.out, HF.out] at hh; cases hh), hb7⟩
          · rw [hcd] at HF
            go_wp2_with (fail)
            exact bodyPost_ret (v := .tuple #[.slice A6 G.1.length k6, .bool true]) (by simp [results, Tryz.results82, go_sem] <;> rfl) rfl ⟨.slice A6 G.1.length k6, by rw [HEQ.out, HF.out], (fun _ => by rw [HEQ.out]; exact OwnL.base HO6.out (by show w.heap.size ≤ wr.heap.size; have := HBW.size; omega)), hb7⟩
end Go.Proofs.YtddihmpiaemadaaGreatDoor
