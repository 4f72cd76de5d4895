/- Numbers read from words: readDecimal and splitNumbers, the walks. -/
import Derived.Test.YtkpjjohanbiagaaDoorSplP
import Derived.Test.YtkpjjohanbiagaaDoorLedI
import Derived.Test.YtkpjjohanbiagaaDoorHInt64
import Derived.Maps.AppendAt
namespace Go.Proofs.YtkpjjohanbiagaaDoor
set_option linter.unusedVariables false
set_option linter.unusedSimpArgs false
open Go.RowKit
/-- what the library's readers of numbers and words want of the world -/
structure EnvR (w : World) : Prop where
  ml : ∃ m, w.cell? ⟨1, 0, none⟩ = some (.int .i64 m)
  es : ∃ ev, w.cell? ⟨2, 0, none⟩ = some ev ∧ (ev = .nilIface ∨ ∃ te pe, ev = .iface te pe)
  er : ∃ ev, w.cell? ⟨3, 0, none⟩ = some ev ∧ (ev = .nilIface ∨ ∃ te pe, ev = .iface te pe)
  pw : Pow w
theorem EnvR.below {w w' : World} (h : EnvR w) (hb : Below w.heap.size w w') : EnvR w' := by
  obtain ⟨⟨m, h1⟩, ⟨e1, h2, h2'⟩, ⟨e2, h3, h3'⟩, h4⟩ := h
  exact ⟨⟨m, (hb.cell (p := ⟨_, 0, none⟩) (World.block_lt_of_cell? w _ h1)).trans h1⟩, ⟨e1, (hb.cell (p := ⟨_, 0, none⟩) (World.block_lt_of_cell? w _ h2)).trans h2, h2'⟩, ⟨e2, (hb.cell (p := ⟨_, 0, none⟩) (World.block_lt_of_cell? w _ h3)).trans h3, h3'⟩, h4.below hb⟩
theorem deci_any (x : Int) (w : World) (h : -9223372036854775808 ≤ x ∧ x ≤ 9223372036854775807) (tab : Pow w) : Calls Tryd.prog 64 #[.int .i64 x] w fun e w' => e = .returned (.string (strB (Lib.itoa x))) ∧ Below w.heap.size w w' := by
  have HF := Lib.hid (Tryd.strconv_FormatInt_10 x h.1 h.2 w tab)
  go_enter Tryd.func64, Tryd.ntmps64
  go_wp2_with (go_at_call 79; refine HF.out.mono ?_; rintro e w1 ⟨rfl, k, os, rfl⟩)
  go_ret
  exact ⟨rfl, Lib.below_grow _ _ (Nat.le_refl _) _ _⟩
theorem parse_bd {l : List UInt8} {v : Int} (h : Lib.parseIntB 64 l = .ok v) : -9223372036854775808 ≤ v ∧ v ≤ 9223372036854775807 := by
  unfold Lib.parseIntB at h
  cases l with
  | nil => cases h
  | cons c r =>
    simp only [] at h
    split at h
    · cases h
    · cases h
    · rename_i u _
      split at h
      · cases h
      · rename_i h1
        split at h
        · cases h
        · rename_i h2
          have h3 := Lib.NumEnd.ok.inj h
          by_cases hn : c.toNat = 45
          · rw [if_pos hn] at h3
            have : ¬ 2 ^ (64 - 1) < u := fun hh => h2 ⟨hn, hh⟩
            omega
          · rw [if_neg hn] at h3
            have : ¬ 2 ^ (64 - 1) ≤ u := fun hh => h1 ⟨hn, hh⟩
            omega
def rdV (o : Option Int) : Value := .tuple #[.int .i64 (o.getD 0), .bool o.isSome]
theorem rdD_ok {l : List UInt8} {v : Int} (h : Lib.parseIntB 64 l = .ok v) (he : Lib.itoa v = l) : rdD l = some v := by
  unfold rdD; rw [h]; simp only [he, if_true]
theorem rdD_ne {l : List UInt8} {v : Int} (h : Lib.parseIntB 64 l = .ok v) (he : ¬ Lib.itoa v = l) : rdD l = none := by
  unfold rdD; rw [h]; simp only [he, if_false]
theorem rdD_syn {l : List UInt8} (h : Lib.parseIntB 64 l = Lib.parseIntB 64 []) : rdD l = none := by unfold rdD; rw [h]; rfl
theorem rdD_rng {l : List UInt8} (h : Lib.parseIntB 64 l = .range) : rdD l = none := by unfold rdD; rw [h]
theorem str_eqb (l : List UInt8) (s : ByteArray) : ((strB l).toList == s.toList) = decide (l = s.data.toList) := by
  rw [ByteArray.toList_eq, ByteArray.toList_eq, strB_list, Bool.eq_iff_iff, beq_iff_eq, decide_eq_true_eq]
set_option maxRecDepth 20000 in
set_option maxHeartbeats 2000000 in
theorem readd_i (s : ByteArray) (w : World) (hs : s.size ≤ 2097152) (env : EnvR w) : Calls Tryd.prog 62 #[.string s] w fun e w' => e = .returned (rdV (rdD s.data.toList)) ∧ Below w.heap.size w w' := by
  obtain ⟨⟨m, h1⟩, ⟨e1, h2, h2'⟩, ⟨e2, h3, h3'⟩, h4⟩ := env
  cases hp : Lib.parseIntB 64 s.data.toList with
  | ok v =>
    have hv := parse_bd hp
    have HP := Lib.hid (Tryd.strconv_ParseInt_10_at64_ok s (by omega) v hp w)
    have HD := Lib.hid (fun w' (hb : Below w.heap.size w w') => deci_any v w' hv (h4.below hb))
    have HQ := Lib.hid (str_eqb (Lib.itoa v) s)
    by_cases he : Lib.itoa v = s.data.toList
    · have HR := Lib.hid (rdD_ok hp he)
      rw [decide_eq_true he] at HQ
      have hq := HQ.out
      clear hp he h1 h2 h2' h3 h3' h4
      go_enter Tryd.func62, Tryd.ntmps62
      go_wp2_with (fail)
      refine HP.out.mono ?_; rintro e w1 ⟨rfl, hw1⟩
      have hb1 : Below w.heap.size w w1 := by
        rcases hw1 with rfl | ⟨t, rfl⟩
        · exact Below.refl _ _
        · exact Lib.bytesWorld_below _ _ _
      clear hw1
      go_wp2_with (fail)
      refine (HD.out w1 hb1).mono ?_; rintro e w2 ⟨rfl, hb2⟩
      go_wp2
      go_ret2
      exact ⟨by rw [HR.out]; rfl, hb1.trans (hb2.mono hb1.size)⟩
    · have HR := Lib.hid (rdD_ne hp he)
      rw [decide_eq_false he] at HQ
      have hq := HQ.out
      clear hp he h1 h2 h2' h3 h3' h4
      go_enter Tryd.func62, Tryd.ntmps62
      go_wp2_with (fail)
      refine HP.out.mono ?_; rintro e w1 ⟨rfl, hw1⟩
      have hb1 : Below w.heap.size w w1 := by
        rcases hw1 with rfl | ⟨t, rfl⟩
        · exact Below.refl _ _
        · exact Lib.bytesWorld_below _ _ _
      clear hw1
      go_wp2_with (fail)
      refine (HD.out w1 hb1).mono ?_; rintro e w2 ⟨rfl, hb2⟩
      go_wp2
      go_ret2
      exact ⟨by rw [HR.out]; rfl, hb1.trans (hb2.mono hb1.size)⟩
  | range =>
    have HP := Lib.hid (Tryd.strconv_ParseInt_10_at64_range s (by omega) hp e2 w h3 h3')
    have HR := Lib.hid (rdD_rng hp)
    clear hp h1 h2 h2' h3 h3' h4
    go_enter Tryd.func62, Tryd.ntmps62
    go_wp2_with (fail)
    refine HP.out.mono ?_; rintro e w1 ⟨N, rfl, _, _, hb1⟩
    go_wp2
    go_ret2
    exact ⟨by rw [HR.out]; rfl, hb1⟩
  | _ =>
    have HP := Lib.hid (Tryd.strconv_ParseInt_10_at64_syntax s (by omega) hp e1 w h2 h2')
    have HR := Lib.hid (rdD_syn hp)
    clear hp h1 h2 h2' h3 h3' h4
    go_enter Tryd.func62, Tryd.ntmps62
    go_wp2_with (fail)
    refine HP.out.mono ?_; rintro e w1 ⟨N, rfl, _, _, hb1⟩
    go_wp2
    go_ret2
    exact ⟨by rw [HR.out]; rfl, hb1⟩
theorem split_len (c : UInt8) (l : List UInt8) : ∀ acc, ∀ p ∈ splitF c acc l, p.length ≤ acc.length + l.length := by
  induction l with
  | nil => intro acc p hp; simp [splitF] at hp; subst hp; simp
  | cons b r ih =>
    intro acc p hp
    unfold splitF at hp
    split at hp
    · rcases List.mem_cons.1 hp with rfl | hp
      · simp
      · have := ih [] p hp; simp at this ⊢; omega
    · have := ih _ p hp; simp at this ⊢; omega
theorem nums_next {ws : List (List UInt8)} {k : Nat} {q : List UInt8} {x : Int} {acc : List Int} {X : Option (List Int)} (hq : ws[k]? = some q) (h : rdD q = some x) (H : Hid (X = (numsD (ws.drop k)).map (fun l => acc ++ l))) : Hid (X = (numsD (ws.drop (k + 1))).map (fun l => (acc ++ [x]) ++ l)) := by
  obtain ⟨hk, rfl⟩ := List.getElem?_eq_some_iff.1 hq
  refine Lib.hid ?_
  rw [H.out, List.drop_eq_getElem_cons hk, numsD_cons, h, Option.bind_some, Option.map_map]
  congr 1
  funext l
  simp
theorem nums_stop {ws : List (List UInt8)} {k : Nat} {q : List UInt8} {acc : List Int} {X : Option (List Int)} (hq : ws[k]? = some q) (h : rdD q = none) (H : Hid (X = (numsD (ws.drop k)).map (fun l => acc ++ l))) : X = none := by
  obtain ⟨hk, rfl⟩ := List.getElem?_eq_some_iff.1 hq
  rw [H.out, List.drop_eq_getElem_cons hk, numsD_cons, h]; rfl
theorem nums_end {ws : List (List UInt8)} {k : Nat} {acc : List Int} {X : Option (List Int)} (hk : ws.length ≤ k) (H : Hid (X = (numsD (ws.drop k)).map (fun l => acc ++ l))) : X = some acc := by
  rw [H.out, List.drop_of_length_le hk, numsD, Option.map_some, List.append_nil]
/-- what splitNumbers hands back -/
def SpN (w : World) (o : Option (List Int)) (e : Ending) (w' : World) : Prop := ∃ v, e = .returned (.tuple #[v, .bool o.isSome]) ∧ Int64L w.heap.size w' v (o.getD []) ∧ Below w.heap.size w w'
set_option maxRecDepth 20000 in
set_option maxHeartbeats 4000000 in
theorem splitn_i (s : ByteArray) (w : World) (hs : s.size ≤ 2097152) (env : EnvR w) : Calls Tryd.prog 31 #[.string s, .string ⟨#[32]⟩] w (SpN w (numsD (splitF 32 [] s.data.toList))) := by
  obtain ⟨i0, hi, hz0, hz1, hz2⟩ := info_parts icell_info
  obtain ⟨m, hml⟩ := env.ml
  have HS := Lib.hid (Tryd.strings_Split s ⟨#[32]⟩ m w (by omega) hml (by decide))
  have HW := Lib.hid (words_of s 32)
  have hlen : (Lib.splitB ⟨#[32]⟩ 0 (Lib.countB s ⟨#[32]⟩) s).length = Lib.countB s ⟨#[32]⟩ + 1 := Lib.splitB_all _ (by decide) 0 _ s rfl
  have hcl := Lib.countB_le ⟨#[32]⟩ (by decide) s.size s (Nat.le_refl _)
  have hwl : ∀ q ∈ Lib.splitB ⟨#[32]⟩ 0 (Lib.countB s ⟨#[32]⟩) s, q.size ≤ 2097152 := fun q hq => by
    have h1 : q.data.toList ∈ splitF 32 [] s.data.toList := by rw [← HW.out]; exact List.mem_map.2 ⟨q, hq, rfl⟩
    have h2 := split_len 32 s.data.toList [] _ h1
    rw [data_len, data_len] at h2
    simp at h2; omega
  generalize Lib.splitB ⟨#[32]⟩ 0 (Lib.countB s ⟨#[32]⟩) s = L at *
  generalize Lib.countB s ⟨#[32]⟩ = n at *
  rw [← HW.out]
  have HL := Lib.hid hlen
  have HWL := Lib.hid hwl
  have HEN := Lib.hid (fun w' (hb : Below w.heap.size w w') => env.below hb)
  clear hml HW hwl
  go_enter Tryd.func31, Tryd.ntmps31
  go_wp2_with (fail)
  refine HS.out.mono ?_; rintro e w1 ⟨rfl, hw1⟩
  have hb1 : Below w.heap.size w w1 := by rw [hw1]; exact Below.alloc (Below.refl _ _) (Nat.le_refl _) _
  have hz1' : w1.heap.size = w.heap.size + 1 := by rw [hw1]; simp
  have HC : Hid (∀ (k : Nat) (q : ByteArray), L[k]? = some q → w1.cell? ⟨w.heap.size, k, none⟩ = some (.string q)) := Lib.hid (fun k q hq => by
    rw [hw1]
    simp [go_sem, hq])
  clear hw1 HS
  have HO0 : Hid (Int64L w1.heap.size w1 (.slice none 0 0) []) := Lib.hid OwnL.of_nil
  go_wp2
  go_loopw [15, 6] (fun i x wr => ∃ (k : Nat) (acc : List Int), k ≤ n + 1 ∧ i = .int .i64 k ∧ Hid (acc.length = k) ∧ Below w1.heap.size w1 wr ∧ Hid (Int64L w1.heap.size wr x acc) ∧ Hid (numsD (L.map (·.data.toList)) = (numsD ((L.map (·.data.toList)).drop k)).map (fun l => acc ++ l))) (fun i _ _ => n + 1 - (intOf i).toNat)
  case atStart => exact ⟨0, [], by omega, rfl, Lib.hid rfl, Below.refl _ _, HO0, Lib.hid (by simp)⟩
  case round =>
    clear HO0
    obtain ⟨k, acc, hk, rfl, HAL, hb, HO, HN⟩ := hrel
    have zr := hb.size
    have hbw := hb1.trans (hb.mono hb1.size)
    obtain ⟨Ax, cx, rfl, _⟩ := OwnL.shape HO.out
    by_cases hlt : k < n + 1
    · obtain ⟨q, hq⟩ : ∃ q, L[k]? = some q := ⟨L[k]'(by rw [HL.out]; exact hlt), List.getElem?_eq_getElem (by rw [HL.out]; exact hlt)⟩
      have hqm : (L.map (·.data.toList))[k]? = some q.data.toList := by rw [List.getElem?_map, hq]; rfl
      have c0 := (hb.cell (p := ⟨w.heap.size, k, none⟩) (by show w.heap.size < _; omega)).trans (HC.out k q hq)
      have HRD := Lib.hid (readd_i q wr (HWL.out q (List.mem_of_getElem? hq)) (HEN.out wr hbw))
      have HY := Lib.hid (fun x hx => nums_next (x := x) hqm hx HN)
      have HZ := Lib.hid (fun hx => nums_stop hqm hx HN)
      generalize hrd : rdD q.data.toList = o at *
      clear hq hqm hrd
      have hn63 : n ≤ 9223372036854775806 := by omega
      cases o with
      | none =>
        have HZ2 := Lib.hid (HZ.out rfl)
        have HRN : Hid (Calls Tryd.prog 62 #[.string q] wr fun e w' => e = .returned (.tuple #[.int .i64 0, .bool false]) ∧ Below wr.heap.size wr w') := HRD
        clear HY HZ HRD
        go_wp2_with (fail)
        refine HRN.out.mono ?_; rintro e w2 ⟨rfl, hb2⟩
        go_wp2
        go_ret2
        exact ⟨.slice none 0 0, by rw [HZ2.out]; rfl, by rw [HZ2.out]; exact OwnL.of_nil, hbw.trans (hb2.mono hbw.size)⟩
      | some x =>
        have HY2 := HY.out x rfl
        have hl1 : acc.length + 1 ≤ 16777216 := by rw [HAL.out]; omega
        have HRN : Hid (Calls Tryd.prog 62 #[.string q] wr fun e w' => e = .returned (.tuple #[.int .i64 x, .bool true]) ∧ Below wr.heap.size wr w') := HRD
        clear HY HZ HRD
        go_wp2_with (fail)
        refine HRN.out.mono ?_; rintro e w2 ⟨rfl, hb2⟩
        have HO2 := Lib.hid (OwnL.below HO.out hb2)
        have hb12 := hb.trans (hb2.mono zr)
        have hbase : w1.heap.size ≤ (w2.alloc (.cells #[.int .i64 x] 2)).heap.size := by have := hb12.size; simp; omega
        go_wp2_with (at_builtin; refine wpList_app1 icell 1 icell_len _ rfl _ _ _ rfl w1.heap.size 2 i0 (.int .i64 0) 8 Tryd.underlying44 hi hz0 hz1 hz2 rfl (by decide) _ acc rfl (HO2.out.alloc _) _ 1 x rfl ?_ (by simp [icell, Value.oneCell']) hl1 (by decide) hbase ?_; (· intro j u hu; cases j with | zero => (simp [icell] at hu; subst hu; simp) | succ j => simp [icell] at hu); intro v8 w8 how8 hg8'; have hb8 : Below w1.heap.size w1 w8 := own_grown_below (HO2.out.alloc (.cells #[.int .i64 x] 2)) (Below.alloc hb12 hb12.size _) hg8' (Nat.le_refl _) hbase; have HO8 := Lib.hid how8)
        go_roundw
        case rel => exact ⟨k + 1, acc ++ [x], by omega, by go_num, Lib.hid (by rw [List.length_append, HAL.out]; rfl), hb8, HO8, HY2⟩
        case measure => simp [intOf]; omega
    · have HE := Lib.hid (nums_end (by rw [List.length_map, HL.out]; omega) HN)
      have HO2 := HO.out
      go_wp2
      go_ret2
      exact ⟨_, by rw [HE.out]; rfl, by rw [HE.out]; exact OwnL.base HO2 hb1.size, hbw⟩
end Go.Proofs.YtkpjjohanbiagaaDoor
