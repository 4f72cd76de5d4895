/- Places at which readings differ; the bytes that a check value yields: the walks. -/
import Derived.Test.YtfcdienphillnaaGreatLr23
import Derived.Test.YtfcdienphillnaaGreatLr29
namespace Go.Proofs.YtfcdienphillnaaGreat
set_option linter.unusedVariables false
set_option linter.unusedSimpArgs false
open Go.RowKit
theorem ne_u8 {a b : Nat} : (((a : Int)) != ((b : Int))) = !decide (a = b) := by
  by_cases h : a = b
  · subst h; simp
  · rw [decide_eq_false h, Bool.not_false, bne_iff_ne]; omega
set_option maxRecDepth 20000 in
set_option maxHeartbeats 4000000 in
theorem dif_i (B : Nat) (D : List ByteArray) (v : Value) (w : World) (h : StringL B w v D) (hn : D.length ≤ 1048576) (n : Nat) (hs : ∀ s ∈ D, s.size = n) (hn2 : n ≤ 1048576) (h0 : D ≠ []) :
    Calls Tryz.prog 125 #[v] w fun r w' => RetL icell 1 2 w (fltN (diB D) n) r w' := by
  obtain ⟨i0, hi, hz0, hz1, hz2⟩ := info_parts icell_info
  obtain ⟨A, c, rfl, hA⟩ := OwnL.shape h
  obtain ⟨g, rfl, _, hg⟩ := hA.resolve_left h0
  have HC := Lib.hid (fun k s (hk : D[k]? = some s) => StringL.at_ h rfl hk)
  have hl : 0 < D.length := List.length_pos_iff.2 h0
  obtain ⟨s0, hs0⟩ : ∃ s, D[0]? = some s := ⟨D[0], List.getElem?_eq_getElem hl⟩
  have HC0 := HC.out 0 s0 hs0
  have hs00 := hs s0 (List.mem_of_getElem? hs0)
  have HS := Lib.hid hs
  have H0 := Lib.hid hs0
  clear hA h h0 hs hs0
  subst hs00
  go_enter Tryz.func125, Tryz.ntmps125
  go_wp2_with (fail)
  go_loopw [11, 3] (fun i out wr => ∃ (k : Nat) (acc : List Int), k ≤ s0.size ∧ i = .int .i64 k ∧ acc.length ≤ k ∧ Below w.heap.size w wr ∧ Int64L w.heap.size wr out acc ∧ Hid (acc = fltN (diB D) k)) (fun i _ _ => s0.size - (intOf i).toNat)
  case atStart => exact ⟨0, [], by omega, rfl, by simp, Below.refl _ _, OwnL.of_nil, Lib.hid rfl⟩
  case round =>
    obtain ⟨k, acc, hk, rfl, hac, hb, how, HM⟩ := hrel
    have zr := hb.size
    by_cases hlt : k < s0.size
    · generalize hwo : wr = wo at *; clear hwo
      have HO := Lib.hid how
      clear how
      go_wp2_with (fail)
      go_loopw [16, 3] (fun j ou wx => ∃ q : Nat, q ≤ D.length ∧ j = .int .i64 q ∧ ou = u3 ∧ Below wo.heap.size wo wx ∧ Hid (∀ (q' : Nat) (s : ByteArray), q' < q → D[q']? = some s → ∃ hi : k < s.size, ((s[k].toNat : Int) != (s0[k].toNat : Int)) = false)) (fun j _ _ => D.length - (intOf j).toNat)
      case atStart => exact ⟨0, by omega, rfl, rfl, Below.refl _ _, Lib.hid fun q' s hq => by omega⟩
      case round =>
        obtain ⟨q, hq, rfl, rfl, hbx, HQ⟩ := hrel
        have hbw := hb.trans (hbx.mono zr)
        have HOX := Lib.hid (OwnL.below HO.out hbx)
        by_cases hltq : q < D.length
        · obtain ⟨s, hs⟩ : ∃ s, D[q]? = some s := ⟨D[q], List.getElem?_eq_getElem hltq⟩
          have q0 := (hbw.cell (p := ⟨g, q, none⟩) hg).trans (HC.out q s hs)
          have q1 := (hbw.cell (p := ⟨g, 0, none⟩) hg).trans HC0
          have hsz1 := HS.out s (List.mem_of_getElem? hs)
          have his : k < s.size := by omega
          by_cases hc : s[k].toNat = s0[k].toNat
          · have he : (((s[k].toNat : Nat) : Int) != ((s0[k].toNat : Nat) : Int)) = false := by rw [ne_u8, decide_eq_true hc]; rfl
            have HN : Hid (∀ (q' : Nat) (s : ByteArray), q' < q + 1 → D[q']? = some s → ∃ hi : k < s.size, ((s[k].toNat : Int) != (s0[k].toNat : Int)) = false) := Lib.hid fun q' t hq' ht => by
              by_cases e : q' = q
              · subst e
                rw [hs] at ht
                obtain rfl := Option.some.inj ht
                exact ⟨his, he⟩
              · exact HQ.out q' t (by omega) ht
            clear hs hsz1 hc
            go_wp2_with (fail)
            go_quiet (fail)
            go_wp2_with (fail)
            go_roundw
            case rel => exact ⟨q + 1, by omega, by go_num, rfl, below_drewNQ hbx _, HN⟩
            case measure => simp [intOf]; omega
          · have he : (((s[k].toNat : Nat) : Int) != ((s0[k].toNat : Nat) : Int)) = true := by rw [ne_u8, decide_eq_false hc]; rfl
            have HN := flt_yes HM (di_yes H0.out hs hlt his he)
            clear hs hsz1 hc
            go_wp2_with (fail)
            go_quiet (fail)
            go_wp2_with (at_builtin; refine stopQ ?_)
            intro _
            refine wpList_app1 icell 1 icell_len _ rfl _ _ _ rfl w.heap.size 2 i0 (.int .i64 0) 8 Tryz.underlying23 hi hz0 hz1 hz2 rfl (by decide) _ acc rfl (OwnL.alloc (OwnL.below HOX.out (below_drewNQ (Below.refl _ _) _)) _) _ 1 (k : Int) rfl ?_ (by simp [icell, Value.oneCell']) (by omega) (by omega) (by have := hbw.size; simp; omega) ?_
            · intro j u hu; cases j with | zero => (simp [icell] at hu; subst hu; first | exact cell_allocD _ _ _ _ | simp) | succ j => simp [icell] at hu
            intro v' w5 how2 hg2
            go_wp2_with (fail)
            go_roundw
            case rel => exact ⟨k + 1, acc ++ [(k : Int)], by omega, by go_num, by simp; omega, own_grown_below (OwnL.alloc (OwnL.below HOX.out (below_drewNQ (Below.refl _ _) _)) _) ((below_drewNQ hbw _).alloc (by have := hbw.size; simp; omega) _) hg2 (Nat.le_refl _) (by have := hbw.size; simp; omega), how2, HN⟩
            case measure => simp [intOf]; omega
        · have HN := flt_no HM (di_no H0.out hlt fun q' s hs => HQ.out q' s (by have := (List.getElem?_eq_some_iff.1 hs).1; omega) hs)
          go_wp2_with (fail)
          go_roundw
          case rel => exact ⟨k + 1, acc, by omega, by go_num, by omega, hbw, HOX.out, HN⟩
          case measure => simp [intOf]; omega
    · obtain rfl : k = s0.size := by omega
      go_wp2_with (fail)
      go_ret
      exact ⟨_, rfl, by rw [← HM.out]; exact how, hb⟩
theorem sbE_V (s : ByteArray) (l : List Int) (c : Int) : sbV s l c = .tuple #[.string (sbE s l c).1, .int .i64 (sbE s l c).2] := rfl
set_option maxRecDepth 20000 in
set_option maxHeartbeats 8000000 in
theorem slv_i (B : Nat) (e : Evd) (va vb vc vd : Value) (k : Nat) (w : World) (h : EvOwn B w e va vb vc vd) (hn : e.ds.length ≤ 1048576) (hk : ∀ d ∈ e.ds, k < d.secs.length) (hkc : k < e.cr.length) (hcr : e.cr.length ≤ 1048576) (m : Nat) (hm : ∀ d ∈ e.ds, ∀ s ∈ d.secs, s.data.size = m) (hm2 : m ≤ 4096) :
    Calls Tryz.prog 92 #[evV va vb vc vd, .int .i64 k] w fun r w' => r = .returned (.tuple #[.string (slvE e k).1, .bool (slvE e k).2]) ∧ Below w.heap.size w w' := by
  obtain ⟨g, c, u, hvb, hu, hc⟩ := crc_cell h hkc
  have hg := World.block_lt_of_cell? w _ hc
  have HX0 := Lib.hid h
  obtain ⟨A, n, B', kk, C, i, D, j, rfl, hvb', rfl, rfl⟩ := h.shape
  rw [hvb'] at hvb
  obtain rfl : B' = some ⟨g, 0, none⟩ := by injection hvb
  obtain rfl : kk = c := by injection hvb
  subst hvb'
  have HB : Below w.heap.size w (w.alloc (.cells #[.slice A e.ds.length n, .slice (some ⟨g, 0, none⟩) e.cr.length kk, .slice C e.p.length i, .slice D e.q.length j] 39)) := Below.alloc (Below.refl _ _) (Nat.le_refl _) _
  have HR := Lib.hid (rd_i B e _ _ _ _ k (w.alloc (.cells #[.slice A e.ds.length n, .slice (some ⟨g, 0, none⟩) e.cr.length kk, .slice C e.p.length i, .slice D e.q.length j] 39)) (HX0.out.below HB) hn hk)
  have HSZ := Lib.hid (rd_size hm hk)
  have HNO := Lib.hid (fun hh => slv_no (e := e) (k := k) hh)
  have HYE := Lib.hid (fun (s0 : ByteArray) h0 hh => slv_yes (e := e) (k := k) (c := u) (s0 := s0) hu h0 hh)
  have hcd : e.cr.getD k 0 = u := by rw [List.getD_eq_getElem?_getD, hu]; rfl
  have hrl := rdF_len k e.ds
  rw [hcd] at HNO
  generalize rdF k e.ds = R at *
  have hc1 : (w.alloc (.cells #[.slice A e.ds.length n, .slice (some ⟨g, 0, none⟩) e.cr.length kk, .slice C e.p.length i, .slice D e.q.length j] 39)).cell? ⟨w.heap.size, 1, none⟩ = some (.slice (some ⟨g, 0, none⟩) e.cr.length kk) := by simp
  have HC1 := Lib.hid hc1
  have HCC := Lib.hid ((HB.cell (p := ⟨g, k, none⟩) hg).trans hc)
  have hz0 : (w.alloc (.cells #[.slice A e.ds.length n, .slice (some ⟨g, 0, none⟩) e.cr.length kk, .slice C e.p.length i, .slice D e.q.length j] 39)).heap.size = w.heap.size + 1 := by simp
  clear h hc hu hc1 hcd hk hm
  go_enter Tryz.func92, Tryz.ntmps92
  go_wp2_with (fail)
  refine HR.out.mono ?_; rintro r w1 ⟨v1, rfl, ho1, hb1⟩
  have z1 := hb1.size
  have c1 := (hb1.cell (p := ⟨w.heap.size, 1, none⟩) (by rw [hz0]; exact Nat.lt_succ_self _)).trans HC1.out
  have cc := (hb1.cell (p := ⟨g, k, none⟩) (by rw [hz0]; show g < _; omega)).trans HCC.out
  have B1 := HB.trans (hb1.mono (by omega))
  have HO1 := Lib.hid ho1
  obtain ⟨A1, k1, rfl, hA1⟩ := OwnL.shape ho1
  clear ho1 HR
  by_cases hneg : u < 0
  · have HF := Lib.hid (HNO.out (.inl hneg))
    have hd : decide (u < 0) = true := decide_eq_true hneg
    go_wp2_with (fail)
    exact bodyPost_ret (v := .tuple #[.string .empty, .bool false]) (by simp [results, Tryz.results92, go_sem] <;> rfl) rfl ⟨by rw [HF.out], B1⟩
  · have hd : decide (u < 0) = false := decide_eq_false hneg
    by_cases hR : R = []
    · have HF := Lib.hid (HNO.out (.inr hR))
      subst hR
      go_wp2_with (fail)
      exact bodyPost_ret (v := .tuple #[.string .empty, .bool false]) (by simp [results, Tryz.results92, go_sem] <;> rfl) rfl ⟨by rw [HF.out], B1⟩
    · have hl : 0 < R.length := List.length_pos_iff.2 hR
      obtain ⟨s0, hs0⟩ : ∃ s, R[0]? = some s := ⟨R[0], List.getElem?_eq_getElem hl⟩
      have HF := Lib.hid (HYE.out s0 hs0 (by omega))
      have hsz := HSZ.out s0 (List.mem_of_getElem? hs0)
      obtain ⟨g1, rfl, _, hg1⟩ := hA1.resolve_left hR
      have q0 := StringL.at_ HO1.out rfl hs0
      have hne : ((R.length : Int) == 0) = false := by rw [beq_eq_false_iff_ne]; omega
      have HDF := Lib.hid (dif_i _ R _ w1.drew (OwnL.below HO1.out (Below.refl _ _).drew) (by omega) s0.size (fun s h => (HSZ.out s h).trans hsz.symm) (by omega) hR)
      have hfl := flt_len (diB R) s0.size
      have HWB : Hid (∀ w3, Below w1.drew.heap.size w1.drew w3 → Below w1.heap.size w1 w3) := Lib.hid fun w3 hb => (Below.refl _ _).drew.trans hb
      have HG3 : Hid (∀ w3, Below w1.heap.size w1 w3 → w3.cell? ⟨w.heap.size, 1, none⟩ = some (.slice (some ⟨g, 0, none⟩) e.cr.length kk) ∧ w3.cell? ⟨g, k, none⟩ = some (.int .i64 u) ∧ w3.cell? ⟨g1, 0, none⟩ = some (.string s0)) := Lib.hid fun w3 hb => ⟨(hb.cell (p := ⟨w.heap.size, 1, none⟩) (by show w.heap.size < _; omega)).trans c1, (hb.cell (p := ⟨g, k, none⟩) (by show g < _; omega)).trans cc, (hb.cell (p := ⟨g1, 0, none⟩) hg1).trans q0⟩
      generalize fltN (diB R) s0.size = L at *
      clear hs0 hA1 HSZ HNO HYE HC1 HCC
      go_wp2_with (fail)
      go_region_law (go_simp; first | (go_at_call 125; refine HDF.out.mono ?_; rintro r w3 ⟨v3, rfl, ho3, hb3⟩; have HB3 := Lib.hid (HWB.out w3 hb3); have HO3 := Lib.hid ho3; obtain ⟨r0, r1, r2⟩ := HG3.out w3 HB3.out; clear ho3 hb3; dsimp only) | (go_at_call 124; refine (sol_i s0 L v3 u w3 (intsAt_own HO3.out) (by omega) (by omega)).mono ?_; rintro r w4 ⟨rfl, hb4⟩; have HB4 := Lib.hid (HB3.out.trans (hb4.mono HB3.out.size)); clear hb4; rw [sbE_V]; dsimp only))
      all_goals clear r0 r1 r2 c1 cc q0
      all_goals go_wp2_with (fail)
      all_goals exact bodyPost_ret (v := .tuple #[.string (sbE s0 L u).1, .bool ((sbE s0 L u).2 == 0)]) (by simp [results, Tryz.results92, go_sem] <;> rfl) rfl ⟨by rw [HF.out], B1.trans (HB4.out.mono B1.size)⟩
set_option maxRecDepth 20000 in
set_option maxHeartbeats 8000000 in
theorem slv_s (B gb : Nat) (e : Evd) (va vb vc vd : Value) (k : Nat) (w : World) (hx : EvBox gb w va vb vc vd) (h : EvOwn B w e va vb vc vd) (hn : e.ds.length ≤ 1048576) (hk : ∀ d ∈ e.ds, k < d.secs.length) (hkc : k < e.cr.length) (hcr : e.cr.length ≤ 1048576) (m : Nat) (hm : ∀ d ∈ e.ds, ∀ s ∈ d.secs, s.data.size = m) (hm2 : m ≤ 4096) (hcb : ∀ u ∈ e.cr, inB u (-1) 65535 = true) :
    Calls Tryz.prog 80 #[.pointer (some ⟨gb, 0, none⟩), .int .i64 k] w fun r w' => r = .returned (.tuple #[.string (slvE e k).1, .bool (slvE e k).2]) ∧ Below w.heap.size w w' := by
  obtain ⟨i0, hi, hz0, hz1, hz2⟩ := info_parts icell_info
  obtain ⟨g, c, u, hvb, hu, hc⟩ := crc_cell h hkc
  have hg := World.block_lt_of_cell? w _ hc
  have hub := inB_yes (hcb u (List.mem_of_getElem? hu))
  have hgb := World.block_lt_of_cell? w _ hx.c0
  have hx1 := hx.c1
  rw [hvb] at hx1
  have HR := Lib.hid (rd_s B gb e _ _ _ _ k w hx h hn hk (by omega))
  have HSZ := Lib.hid (rd_size hm hk)
  have HNO := Lib.hid (fun hh => slv_no (e := e) (k := k) hh)
  have HYE := Lib.hid (fun (s0 : ByteArray) h0 hh => slv_yes (e := e) (k := k) (c := u) (s0 := s0) hu h0 hh)
  have hcd : e.cr.getD k 0 = u := by rw [List.getD_eq_getElem?_getD, hu]; rfl
  have hrl := rdF_len k e.ds
  rw [hcd] at HNO
  generalize rdF k e.ds = R at *
  have HX1 := Lib.hid hx1
  have HCC := Lib.hid hc
  clear h hc hu hx1 hcd hk hm hx hcb hvb
  go_enter Tryz.func80, Tryz.ntmps80
  go_wp2_with (fail)
  refine HR.out.mono ?_; rintro r w1 ⟨v1, rfl, ho1, hb1⟩
  have z1 := hb1.size
  have c1 := (hb1.cell (p := ⟨gb, 1, none⟩) hgb).trans HX1.out
  have cc := (hb1.cell (p := ⟨g, k, none⟩) hg).trans HCC.out
  have HO1 := Lib.hid ho1
  obtain ⟨A1, k1, rfl, hA1⟩ := OwnL.shape ho1
  clear ho1 HR HX1 HCC
  by_cases hneg : u < 0
  · have HF := Lib.hid (HNO.out (.inl hneg))
    have hd : decide (u < 0) = true := decide_eq_true hneg
    go_wp2_with (fail)
    exact bodyPost_ret (v := .tuple #[.string .empty, .bool false]) (by simp [results, Tryz.results80, go_sem] <;> rfl) rfl ⟨by rw [HF.out], hb1⟩
  · have hd : decide (u < 0) = false := decide_eq_false hneg
    by_cases hR : R = []
    · have HF := Lib.hid (HNO.out (.inr hR))
      subst hR
      go_wp2_with (fail)
      exact bodyPost_ret (v := .tuple #[.string .empty, .bool false]) (by simp [results, Tryz.results80, go_sem] <;> rfl) rfl ⟨by rw [HF.out], hb1⟩
    · have hl : 0 < R.length := List.length_pos_iff.2 hR
      obtain ⟨s0, hs0⟩ : ∃ s, R[0]? = some s := ⟨R[0], List.getElem?_eq_getElem hl⟩
      have HF := Lib.hid (HYE.out s0 hs0 (by omega))
      have hsz := HSZ.out s0 (List.mem_of_getElem? hs0)
      obtain ⟨g1, rfl, _, hg1⟩ := hA1.resolve_left hR
      have HC := Lib.hid (fun k s (hk : R[k]? = some s) => StringL.at_ HO1.out rfl hk)
      have hne : ((R.length : Int) == 0) = false := by rw [beq_eq_false_iff_ne]; omega
      have H0 := Lib.hid hs0
      have HNE := Lib.hid hR
      have hfl := flt_len (diB R) s0.size
      clear hs0 hA1 HNO HYE hR
      go_wp2_with (fail)
      go_loopw [8, 7] (fun i out wr => ∃ (k : Nat) (acc : List Int), k ≤ s0.size ∧ i = .int .i64 k ∧ acc.length ≤ k ∧ Below w1.heap.size w1 wr ∧ Int64L w1.heap.size wr out acc ∧ Hid (acc = fltN (diB R) k)) (fun i _ _ => s0.size - (intOf i).toNat)
      case atStart => exact ⟨0, [], by omega, rfl, by simp, Below.alloc (Below.refl _ _) (Nat.le_refl _) _, OwnL.of_empty w1 (Nat.le_refl _), Lib.hid rfl⟩
      case round =>
        obtain ⟨p, acc, hp, rfl, hac, hb, how, HM⟩ := hrel
        have zr := hb.size
        have q1 := (hb.cell (p := ⟨g1, 0, none⟩) hg1).trans (HC.out 0 s0 H0.out)
        by_cases hlt : p < s0.size
        · generalize hwo : wr = wo at *; clear hwo
          have HO := Lib.hid how
          clear how
          go_wp2_with (fail)
          go_loopw [9, 7] (fun j ou wx => ∃ q : Nat, q ≤ R.length ∧ j = .int .i64 q ∧ ou = u7 ∧ Below wo.heap.size wo wx ∧ Hid (∀ (q' : Nat) (s : ByteArray), q' < q → R[q']? = some s → ∃ hi : p < s.size, ((s[p].toNat : Int) != (s0[p].toNat : Int)) = false)) (fun j _ _ => R.length - (intOf j).toNat)
          case atStart => exact ⟨0, by omega, rfl, rfl, Below.refl _ _, Lib.hid fun q' s hq => by omega⟩
          case round =>
            clear q1
            obtain ⟨q, hq, rfl, rfl, hbx, HQ⟩ := hrel
            have hbw := hb.trans (hbx.mono zr)
            have HOX := Lib.hid (OwnL.below HO.out hbx)
            by_cases hltq : q < R.length
            · obtain ⟨s, hs⟩ : ∃ s, R[q]? = some s := ⟨R[q], List.getElem?_eq_getElem hltq⟩
              have q0 := (hbw.cell (p := ⟨g1, q, none⟩) hg1).trans (HC.out q s hs)
              have q1 := (hbw.cell (p := ⟨g1, 0, none⟩) hg1).trans (HC.out 0 s0 H0.out)
              have hsz1 := HSZ.out s (List.mem_of_getElem? hs)
              have his : p < s.size := by omega
              by_cases hcq : s[p].toNat = s0[p].toNat
              · have he : (((s[p].toNat : Nat) : Int) != ((s0[p].toNat : Nat) : Int)) = false := by rw [ne_u8, decide_eq_true hcq]; rfl
                have HN : Hid (∀ (q' : Nat) (s : ByteArray), q' < q + 1 → R[q']? = some s → ∃ hi : p < s.size, ((s[p].toNat : Int) != (s0[p].toNat : Int)) = false) := Lib.hid fun q' t hq' ht => by
                  by_cases e : q' = q
                  · subst e
                    rw [hs] at ht
                    obtain rfl := Option.some.inj ht
                    exact ⟨his, he⟩
                  · exact HQ.out q' t (by omega) ht
                clear hs hsz1 hcq
                go_wp2_with (fail)
                go_quiet (fail)
                go_wp2_with (fail)
                go_roundw
                case rel => exact ⟨q + 1, by omega, by go_num, rfl, below_drewNQ hbx _, HN⟩
                case measure => simp [intOf]; omega
              · have he : (((s[p].toNat : Nat) : Int) != ((s0[p].toNat : Nat) : Int)) = true := by rw [ne_u8, decide_eq_false hcq]; rfl
                have HN := flt_yes HM (di_yes H0.out hs hlt his he)
                clear hs hsz1 hcq
                go_wp2_with (fail)
                go_quiet (fail)
                go_wp2_with (at_builtin; refine stopQ ?_)
                intro _
                refine wpList_app1 icell 1 icell_len _ rfl _ _ _ rfl w1.heap.size 2 i0 (.int .i64 0) 8 Tryz.underlying23 hi hz0 hz1 hz2 rfl (by decide) _ acc rfl (OwnL.alloc (OwnL.below HOX.out (below_drewNQ (Below.refl _ _) _)) _) _ 1 (p : Int) rfl ?_ (by simp [icell, Value.oneCell']) (by omega) (by omega) (by have := hbw.size; simp; omega) ?_
                · intro j u hu; cases j with | zero => (simp [icell] at hu; subst hu; first | exact cell_allocD _ _ _ _ | simp) | succ j => simp [icell] at hu
                intro v' w5 how2 hg2
                go_wp2_with (fail)
                go_roundw
                case rel => exact ⟨p + 1, acc ++ [(p : Int)], by omega, by go_num, by simp; omega, own_grown_below (OwnL.alloc (OwnL.below HOX.out (below_drewNQ (Below.refl _ _) _)) _) ((below_drewNQ hbw _).alloc (by have := hbw.size; simp; omega) _) hg2 (Nat.le_refl _) (by have := hbw.size; simp; omega), how2, HN⟩
                case measure => simp [intOf]; omega
            · have HN := flt_no HM (di_no H0.out hlt fun q' s hs => HQ.out q' s (by have := (List.getElem?_eq_some_iff.1 hs).1; omega) hs)
              go_wp2_with (fail)
              go_roundw
              case rel => exact ⟨p + 1, acc, by omega, by go_num, by omega, hbw, HOX.out, HN⟩
              case measure => simp [intOf]; omega
        · obtain rfl : p = s0.size := by omega
          have HO := Lib.hid how
          have HMM := Lib.hid HM.out.symm
          rw [HMM.out] at HF hfl
          have gx := (hb.cell (p := ⟨gb, 1, none⟩) (by show gb < _; omega)).trans c1
          have gc := (hb.cell (p := ⟨g, k, none⟩) (by show g < _; omega)).trans cc
          clear how c1 cc
          have HSB := Lib.hid (sol_s s0 acc _ u wr.drew (intsAt_own (OwnL.below HO.out (Below.refl _ _).drew)) (by omega) (by omega) (by omega))
          go_wp2_with (fail)
          go_region_law (go_simp; first | (go_at_call 118; refine HSB.out.mono ?_; rintro r w4 ⟨rfl, hb4⟩; have HB4 := Lib.hid ((Below.refl wr.heap.size wr).drew.trans hb4); clear hb4; rw [sbE_V]; dsimp only))
          all_goals go_wp2_with (fail)
          all_goals exact bodyPost_ret (v := .tuple #[.string (sbE s0 acc u).1, .bool ((sbE s0 acc u).2 == 0)]) (by simp [results, Tryz.results80, go_sem] <;> rfl) rfl ⟨by rw [HF.out], hb1.trans ((hb.trans (HB4.out.mono zr)).mono z1)⟩
end Go.Proofs.YtfcdienphillnaaGreat
