/- ReadLedger, spec: the walk. -/
import Derived.Test.YtkpjjohanbiagaaDoorSplS
import Derived.Test.YtkpjjohanbiagaaDoorRdlP
import Derived.Test.YtkpjjohanbiagaaDoorRndD
import Derived.Test.YtkpjjohanbiagaaDoorAppAt
import Derived.Test.YtkpjjohanbiagaaDoorBrokenL
namespace Go.Proofs.YtkpjjohanbiagaaDoor
set_option linter.unusedVariables false
set_option linter.unusedSimpArgs false
open Go.RowKit
theorem splitF_len (c : UInt8) : ∀ l acc : List UInt8, (∀ p ∈ splitF c acc l, p.length ≤ acc.length + l.length) ∧ (splitF c acc l).length ≤ l.length + 1 := by
  intro l
  induction l with
  | nil => intro acc; simp [splitF]
  | cons b r ih =>
    intro acc
    unfold splitF
    by_cases h : b = c
    · rw [if_pos h]
      obtain ⟨h1, h2⟩ := ih []
      refine ⟨fun p hp => ?_, by simp; omega⟩
      rcases List.mem_cons.1 hp with rfl | hp
      · simp
      · have := h1 p hp; simp at this; simp; omega
    · rw [if_neg h]
      obtain ⟨h1, h2⟩ := ih (acc ++ [b])
      refine ⟨fun p hp => ?_, by simp; omega⟩
      have := h1 p hp; simp at this; simp; omega
theorem entsW_snoc (p : List (List UInt8)) (q : List UInt8) : entsW (p ++ [q]) = (entsW p).bind fun l => (entW (splitF 32 [] q)).map fun e => l ++ [e] := by
  induction p with
  | nil => simp only [List.nil_append, entsW, Option.bind_some, Option.map_some]; cases entW (splitF 32 [] q) <;> rfl
  | cons a p ih =>
    rw [List.cons_append, entsW, ih, entsW]
    cases entW (splitF 32 [] a) with
    | none => rfl
    | some e =>
      simp only [Option.bind_some]
      cases entsW p with
      | none => rfl
      | some l =>
        simp only [Option.bind_some, Option.map_some]
        cases entW (splitF 32 [] q) <;> rfl
theorem entsW_none {p : List (List UInt8)} (h : entsW p = none) : ∀ r, entsW (p ++ r) = none := by
  induction p with
  | nil => cases h
  | cons a p ih =>
    intro r
    rw [List.cons_append, entsW]
    rw [entsW] at h
    cases ha : entW (splitF 32 [] a) with
    | none => rfl
    | some e =>
      rw [ha, Option.bind_some] at h
      rw [Option.bind_some, ih (by simpa using h)]; rfl
theorem entW_no {ws : List (List UInt8)} (h : ws.length ≠ 4) : entW ws = none := by
  unfold entW
  split
  · simp at h
  · rfl
/-- what the k-th line leaves -/
theorem ents_next {ls : List (List UInt8)} {k : Nat} {q : List UInt8} (h : ls[k]? = some q) {l : List Ent} (H : entsW (ls.take k) = some l) : entsW (ls.take (k + 1)) = (entW (splitF 32 [] q)).map fun e => l ++ [e] := by
  rw [List.take_add_one, h, Option.toList_some, entsW_snoc, H, Option.bind_some]
theorem ents_bad {ls : List (List UInt8)} {k : Nat} (hk : k + 1 ≤ ls.length - 1) (H : entsW (ls.take (k + 1)) = none) : entsW ls.dropLast = none := by
  have e : ls.dropLast = ls.take (k + 1) ++ (ls.dropLast).drop (k + 1) := by
    have h1 : ls.take (k + 1) = ls.dropLast.take (k + 1) := by rw [List.dropLast_eq_take, List.take_take, Nat.min_eq_left hk]
    rw [h1, List.take_append_drop]
  rw [e]; exact entsW_none H _
theorem ents_end {ls : List (List UInt8)} {k : Nat} (hk : k = ls.length - 1) {l : List Ent} (H : entsW (ls.take k) = some l) : entsW ls.dropLast = some l := by
  rw [List.dropLast_eq_take, ← hk]; exact H
theorem rdS_no {s : List UInt8} (h : ¬ ((splitF 10 [] s).getLast? = some [] ∧ (splitF 10 [] s).length ≤ 31)) : rdS s = ([], false) := by
  unfold rdS; rw [if_neg h]
theorem rdS_bad {s : List UInt8} (h : entsW (splitF 10 [] s).dropLast = none) : rdS s = ([], false) := by
  unfold rdS; rw [h]; split <;> rfl
theorem rdS_some {s : List UInt8} (h : (splitF 10 [] s).getLast? = some [] ∧ (splitF 10 [] s).length ≤ 31) {l : List Ent} (he : entsW (splitF 10 [] s).dropLast = some l) : rdS s = if ledgerOk l then (l, true) else ([], false) := by
  unfold rdS; rw [if_pos h, he]
theorem entW_verb {ws : List (List UInt8)} {e : Ent} (h : entW ws = some e) : ∃ p ∈ ws, e.verb.size = p.length := by
  unfold entW at h
  split at h
  · obtain rfl := Option.some.inj h
    exact ⟨_, by simp, strB_size _⟩
  · cases h
theorem entsW_len {p : List (List UInt8)} : ∀ {l : List Ent}, entsW p = some l → l.length = p.length ∧ ∀ e ∈ l, ∃ q ∈ p, e.verb.size ≤ q.length := by
  induction p with
  | nil => intro l h; obtain rfl : l = [] := by simpa [entsW] using h.symm
           simp
  | cons q p ih =>
    intro l h
    rw [entsW] at h
    obtain ⟨e, he, h⟩ := Option.bind_eq_some_iff.1 h
    obtain ⟨r, hr, rfl⟩ := Option.map_eq_some_iff.1 h
    obtain ⟨h1, h2⟩ := ih hr
    refine ⟨by simp [h1], fun x hx => ?_⟩
    rcases List.mem_cons.1 hx with rfl | hx
    · obtain ⟨t, ht, e1⟩ := entW_verb he
      have := (splitF_len 32 q []).1 t ht
      exact ⟨q, by simp, by rw [e1]; simpa using this⟩
    · obtain ⟨q', h3, h4⟩ := h2 x hx
      exact ⟨q', by simp [h3], h4⟩
theorem four {ws : List (List UInt8)} (h : ws.length = 4) : ∃ a b c d, ws = [a, b, c, d] := by
  match ws, h with
  | [a, b, c, d], _ => exact ⟨a, b, c, d, rfl⟩
set_option maxRecDepth 20000 in
set_option maxHeartbeats 2000000 in
theorem rdl_s (s : ByteArray) (w : World) (hs : s.size ≤ 1048576) :
    Calls Tryd.prog 11 #[.string s] w fun e w' => ∃ v, e = .returned (.tuple #[v, .bool (rdS s.data.toList).2]) ∧ EntL w.heap.size w' v (rdS s.data.toList).1 ∧ Below w.heap.size w w' := by
  have hmx : Tryd.prog.follows .mixedOrders = true := by kernel_rfl
  have hsl : s.data.toList.length ≤ 1048576 := by rw [data_len]; exact hs
  have HS : Hid (∀ w1, Calls Tryd.prog 24 #[.string s, .int .u8 10] w1 fun e w' => ∃ v, e = .returned v ∧ StringL w1.heap.size w' v ((splitF 10 [] s.data.toList).map strB) ∧ Below w1.heap.size w1 w') := Lib.hid (fun w1 => split_s s 10 w1 hs)
  obtain ⟨i0, hi, hj0, hj1, hj2⟩ := info_parts Ent.info
  have hlen := splitF_len 10 s.data.toList []
  have hne := splitF_ne 10 s.data.toList []
  have HNO := @rdS_no s.data.toList
  have HBAD := Lib.hid (@rdS_bad s.data.toList)
  have HSOME := fun h l he => @rdS_some s.data.toList h l he
  generalize hls : splitF 10 [] s.data.toList = ls at *
  have hl0 : 0 < ls.length := List.length_pos_iff.2 hne
  obtain ⟨lm, hlm⟩ : ∃ lm, ls.length = lm + 1 := ⟨ls.length - 1, by omega⟩
  obtain ⟨q, hq⟩ : ∃ q, ls[lm]? = some q := ⟨_, List.getElem?_eq_getElem (by omega)⟩
  have hgl : ls.getLast? = some q := by rw [List.getLast?_eq_getElem?, hlm, Nat.add_sub_cancel]; exact hq
  rw [hgl, hlm] at HNO
  simp only [hgl, hlm] at HSOME
  have HNO := Lib.hid HNO
  have HSOME := Lib.hid HSOME
  have hln : ls.length ≤ 1048577 := by have := hlen.2; omega
  have HLN := Lib.hid hlen
  clear hlen hls hgl hne
  go_enter Tryd.func11, Tryd.ntmps11
  go_wp2_with (fail)
  refine (HS.out _).mono ?_; rintro e w1 ⟨vl, rfl, hvl, hb1⟩
  obtain ⟨Al, cl, hvv, hAl⟩ := OwnL.shape hvl
  rw [List.length_map] at hvv
  subst hvv
  have hln0 : ls.map strB ≠ [] := by intro e; rw [List.map_eq_nil_iff] at e; rw [e] at hl0; simp at hl0
  obtain ⟨gl, rfl, hgl1, hgl2⟩ := hAl.resolve_left hln0
  have hbw : Below w.heap.size w w1 := (Below.alloc (Below.refl _ _) (Nat.le_refl _) _).trans (hb1.mono (by simp))
  have hzw := hb1.size
  simp at hzw
  have HVL : Hid (StringL (w.heap.size + 1) w1 (.slice (some ⟨gl, 0, none⟩) (lm + 1) cl) (ls.map strB)) := Lib.hid (by simpa [hlm] using hvl)
  simp only [hlm]
  have hcq : w1.cell? ⟨gl, lm, none⟩ = some (.string (strB q)) := StringL.at_ HVL.out (by rw [List.length_map, hlm]) (by rw [List.getElem?_map, hq]; rfl)
  by_cases hlast : q = []
  · have he : (strB q).toList.isEmpty = true := by
      rw [ByteArray.toList_eq, strB_list, hlast]; rfl
    have he2 : ((strB q).toList == []) = true := by
      rw [ByteArray.toList_eq, strB_list, hlast]; rfl
    by_cases h31 : lm + 1 ≤ 31
    · have HSO := Lib.hid (HSOME.out ⟨by rw [hlast], h31⟩)
      have HQ := Lib.hid hq
      clear hlast hq HNO HSOME
      generalize strB q = sq at *
      go_wp2
      go_loopw [6, 4] (fun i x wr => ∃ k : Nat, k ≤ lm ∧ i = .int .i64 k ∧ Below w.heap.size w wr ∧ Hid (StringL (w.heap.size + 1) wr (.slice (some ⟨gl, 0, none⟩) (lm + 1) cl) (ls.map strB)) ∧
        ∃ acc : List Ent, ∃ A c, x = .slice A k c ∧ Hid (acc.length = k) ∧ Hid (EntL w.heap.size wr x acc) ∧ Hid (∀ g, x.ownBlock = some g → g ≠ gl) ∧ Hid (entsW (ls.take k) = some acc)) (fun i _ _ => lm - (intOf i).toNat)
      case atStart =>
        refine ⟨0, Nat.zero_le _, rfl, hbw, HVL, [], _, _, rfl, Lib.hid rfl, Lib.hid (OwnL.below' (OwnL.of_empty w (Nat.le_refl _)) hb1 (by intro g h; simp [Value.ownBlock] at h; subst h; simp)), Lib.hid (by intro g h; simp [Value.ownBlock] at h; subst h; simp at hgl1; omega), Lib.hid rfl⟩
      case round =>
        obtain ⟨k, hk, rfl, hb, HL, acc, A, cc, rfl, HA, HE, HG, HW⟩ := hrel
        have zr := hb.size
        by_cases hlt : k < lm
        · obtain ⟨qk, hqk⟩ : ∃ q, ls[k]? = some q := ⟨_, List.getElem?_eq_getElem (by omega)⟩
          have hqs : qk.length ≤ 1048576 := by have := HLN.out.1 qk (List.mem_of_getElem? hqk); simp at this; omega
          have hcell : wr.cell? ⟨gl, k, none⟩ = some (.string (strB qk)) := StringL.at_ HL.out (by rw [List.length_map, hlm]) (by rw [List.getElem?_map, hqk]; rfl)
          have HSK : Hid (∀ w1, Calls Tryd.prog 24 #[.string (strB qk), .int .u8 32] w1 fun e w' => ∃ v, e = .returned v ∧ StringL w1.heap.size w' v ((splitF 32 [] qk).map strB) ∧ Below w1.heap.size w1 w') := Lib.hid (fun w1 => by
            have := split_s (strB qk) 32 w1 (by rw [strB_size]; exact hqs)
            rw [strB_list] at this; exact this)
          have HN := Lib.hid (ents_next hqk HW.out)
          have hglr := (World.ownsRow.lt HL.out gl rfl).2
          have hwl := (splitF_len 32 qk []).1
          generalize hws : splitF 32 [] qk = ws at *
          clear hws hqk
          generalize strB qk = sk at *
          go_wp2_with (fail)
          refine (HSK.out _).mono ?_; rintro e w2 ⟨v2, rfl, hv2, hb2⟩
          obtain ⟨A2, c2, hvv2, hA2⟩ := OwnL.shape hv2
          rw [List.length_map] at hvv2
          subst hvv2
          have hbw2 : Below w.heap.size w w2 := hb.trans (hb2.mono zr)
          have hz2 := hb2.size
          by_cases h4 : ws.length = 4
          · obtain ⟨a, b, c, d, rfl⟩ := four h4
            obtain ⟨g2, rfl, hg21, hg22⟩ := hA2.resolve_left (by simp)
            have y0 : w2.cell? ⟨g2, 0, none⟩ = some (.string (strB a)) := StringL.at_ (l := [a, b, c, d].map strB) hv2 rfl rfl
            have y1 : w2.cell? ⟨g2, 1, none⟩ = some (.string (strB b)) := StringL.at_ (l := [a, b, c, d].map strB) hv2 rfl rfl
            have y2 : w2.cell? ⟨g2, 2, none⟩ = some (.string (strB c)) := StringL.at_ (l := [a, b, c, d].map strB) hv2 rfl rfl
            have y3 : w2.cell? ⟨g2, 3, none⟩ = some (.string (strB d)) := StringL.at_ (l := [a, b, c, d].map strB) hv2 rfl rfl
            have num : ∀ p ∈ [a, b, c, d], Hid (∀ W, Calls Tryd.prog 26 #[.string (strB p)] W fun e w' => e = .returned (.int .i64 (numS p)) ∧ w' = W) := fun p hp => Lib.hid (fun W => by
              have := number_s (strB p) W (by rw [strB_size]; have := hwl p hp; simp at this; omega)
              rw [strB_list] at this
              exact this.mono fun e w' h => ⟨h.1, h.2.symm⟩)
            have N1 := num b (by simp)
            have N2 := num c (by simp)
            have N3 := num d (by simp)
            have HN2 : Hid (entsW (ls.take (k + 1)) = some (acc ++ [⟨strB a, numS b, numS c, numS d⟩])) := Lib.hid (by rw [HN.out]; rfl)
            have hac := HA.out
            have hlen4 : [a, b, c, d].length = 4 := rfl
            have HE2 := Lib.hid (OwnL.below HE.out hb2)
            have HL2 := Lib.hid (OwnL.below HL.out hb2)
            clear num hwl HN hA2 hv2 h4 HE HL
            rw [hlen4]
            go_wp2
            refine region_move_tail 17 rfl rfl hmx (by kernel_rfl) (fun _ _ _ h => h) (fun w6 hw6 => ?_)
            simp only [addE, List.take, List.drop, Act.put]
            have z0 : w6.cell? ⟨g2, 0, none⟩ = some (.string (strB a)) := by rw [hw6]; exact y0
            have z1 : w6.cell? ⟨g2, 1, none⟩ = some (.string (strB b)) := by rw [hw6]; exact y1
            have z2 : w6.cell? ⟨g2, 2, none⟩ = some (.string (strB c)) := by rw [hw6]; exact y2
            have z3 : w6.cell? ⟨g2, 3, none⟩ = some (.string (strB d)) := by rw [hw6]; exact y3
            have hbw6 : Below w.heap.size w w6 := by rw [hw6]; exact hbw2.drew
            have HE6 : Hid (EntL w.heap.size w6 (.slice A k cc) acc) := Lib.hid (by rw [hw6]; exact OwnL.below HE2.out (Below.refl _ _).drew)
            have HL6 : Hid (StringL (w.heap.size + 1) w6 (.slice (some ⟨gl, 0, none⟩) (lm + 1) cl) (ls.map strB)) := Lib.hid (by rw [hw6]; exact OwnL.below HL2.out (Below.refl _ _).drew)
            have hgl6 : gl < w6.heap.size := by rw [hw6]; show gl < w2.heap.size; omega
            clear hw6 y0 y1 y2 y3 HE2 HL2
            have zr6 := hbw6.size
            repeat still_step
            still_call (N1.out w6)
            repeat still_step
            still_call (N2.out w6)
            repeat still_step
            still_call (N3.out w6)
            repeat still_step
            refine wpStill_nil ?_
            go_wp2_with (at_builtin; refine stopR ?_)
            intro _
            refine wpList_app1at Ent.cells 4 Ent.len _ rfl _ _ _ rfl w.heap.size 48 i0 (.agg #[.string .empty, .int .i64 0, .int .i64 0, .int .i64 0]) 40 Tryd.underlying30 hi hj0 hj1 hj2 rfl (by decide) (.slice A k cc) acc rfl (HE6.out.alloc _) w6.heap.size 1 ⟨strB a, numS b, numS c, numS d⟩ rfl ?cells (entR_one _) (by omega) (by omega) (by simp; omega) ?_
            case cells => exact cellsR rfl
            intro v7 w7 how7 hg7 hvb
            obtain ⟨A7, c7, rfl, _⟩ := OwnL.shape how7
            generalize hl7 : (acc ++ [(⟨strB a, numS b, numS c, numS d⟩ : Ent)]).length = n7 at *
            obtain rfl : n7 = k + 1 := by rw [← hl7]; simp [hac]
            have HB7 : Hid (Below w.heap.size w w7) := Lib.hid (own_grown_below (HE6.out.alloc (.cells #[.string (strB a), .int .i64 (numS b), .int .i64 (numS c), .int .i64 (numS d)] 48)) (Below.alloc hbw6 zr6 _) hg7 (Nat.le_refl _) (by simp; omega))
            have HG7 : Hid (∀ g, (Value.slice A7 (k + 1) c7).ownBlock = some g → g ≠ gl) := Lib.hid (by
              intro g hg
              rcases hvb with hv | hv
              · exact HG.out g (hv.symm.trans hg)
              · rw [hv] at hg; injection hg with hg; simp at hg; omega)
            have HL7 : Hid (StringL (w.heap.size + 1) w7 (.slice (some ⟨gl, 0, none⟩) (lm + 1) cl) (ls.map strB)) := Lib.hid (OwnL.kept (HL6.out.alloc _) hg7 (.inr (fun e => HG.out gl e.symm rfl)))
            have HE7 := Lib.hid how7
            have HL8 := Lib.hid hl7
            clear how7 hg7 hvb hl7
            go_wp2
            go_roundw
            case rel => exact ⟨k + 1, by omega, by go_num, HB7.out, HL7, _, A7, c7, rfl, HL8, HE7, HG7, HN2⟩
            case measure => simp [intOf]; omega
          · have HF := Lib.hid (HBAD.out (ents_bad (ls := ls) (k := k) (by omega) (by rw [HN.out, entW_no h4]; rfl)))
            clear hwl hA2 hv2
            generalize ws.length = nw at *
            have d1 : decide (nw = 4) = false := decide_eq_false h4
            have d2 : decide ((nw : Int) = 4) = false := decide_eq_false (by omega)
            go_wp2
            go_ret2
            refine ⟨_, by rw [HF.out]; rfl, by rw [HF.out]; exact OwnL.of_empty w2 hbw2.size, Below.alloc hbw2 hbw2.size _⟩
        · obtain rfl : k = lm := by omega
          obtain ⟨h1, h2⟩ := entsW_len HW.out
          have hok := HSO.out _ (ents_end (by omega) HW.out)
          have hv : ∀ e ∈ acc, e.verb.size ≤ 1048576 := fun e he => by
            obtain ⟨q', h3, h4⟩ := h2 e he
            have := HLN.out.1 q' (List.mem_of_mem_take h3)
            simp at this; omega
          have hac := HA.out
          have HV := Lib.hid (valid_s0 w.heap.size _ acc wr (by omega) HE.out hv)
          clear h1 h2 hv
          cases hlo : ledgerOk acc
          · rw [hlo] at HV hok
            have HF := Lib.hid hok
            go_wp2_with (fail)
            refine HV.out.mono ?_; rintro e w2 ⟨rfl, hb2⟩
            have hbw2 : Below w.heap.size w w2 := hb.trans (hb2.mono zr)
            go_wp2
            go_ret2
            refine ⟨_, by rw [HF.out]; rfl, by rw [HF.out]; exact OwnL.of_empty w2 hbw2.size, Below.alloc hbw2 hbw2.size _⟩
          · rw [hlo] at HV hok
            have HF := Lib.hid hok
            go_wp2_with (fail)
            refine HV.out.mono ?_; rintro e w2 ⟨rfl, hb2⟩
            have hbw2 : Below w.heap.size w w2 := hb.trans (hb2.mono zr)
            go_wp2
            go_ret2
            refine ⟨_, by rw [HF.out]; rfl, by rw [HF.out]; exact OwnL.below HE.out hb2, hbw2⟩
    · have HF := Lib.hid (HNO.out (by rintro ⟨_, h⟩; exact h31 h))
      clear hlast
      generalize strB q = sq at *
      go_wp2
      go_ret2
      refine ⟨_, by rw [HF.out]; rfl, by rw [HF.out]; exact OwnL.of_empty w1 hbw.size, Below.alloc hbw hbw.size _⟩
  · have he : (strB q).toList.isEmpty = false := by
      rw [ByteArray.toList_eq, strB_list, List.isEmpty_eq_false_iff]; exact hlast
    have he2 : ((strB q).toList == []) = false := by
      rw [ByteArray.toList_eq, strB_list, Bool.eq_false_iff]
      intro e
      exact hlast (eq_of_beq e)
    have HF := Lib.hid (HNO.out (by rintro ⟨h, _⟩; exact hlast (Option.some.inj h)))
    go_wp2
    go_ret2
    refine ⟨_, by rw [HF.out]; rfl, by rw [HF.out]; exact OwnL.of_empty w1 hbw.size, Below.alloc hbw hbw.size _⟩
end Go.Proofs.YtkpjjohanbiagaaDoor
