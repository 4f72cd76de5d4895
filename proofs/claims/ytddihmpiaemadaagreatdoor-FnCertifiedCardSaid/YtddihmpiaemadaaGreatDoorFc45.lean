/- Numbers read from words: readDecimal and splitNumbers, the walks. strings.Lines: what it yields. The walk. LedgerText, impl: the walk of the loop. ReadLedger, impl: the walk. Operations one behind the other, within a round: a law of no program. -/
import Derived.Test.YtddihmpiaemadaaGreatDoorFc43
import Derived.Test.YtddihmpiaemadaaGreatDoorFc44
import Derived.Test.YtddihmpiaemadaaGreatDoorFc05
import Derived.Test.YtddihmpiaemadaaGreatDoorFc42
import Derived.Maps.AppendAt
import Derived.Shelf.RegionOpen
import Derived.WalkKit
import Derived.OwnWalkIn
import Derived.TacticsInMore
import Derived.LoopNIn
import Derived.LoopIn
import Derived.Deep.Cut
import Derived.Deep.WholeRow
import Derived.TacticsIn
namespace Go.Proofs.YtddihmpiaemadaaGreatDoor
set_option linter.unusedVariables false
set_option linter.unusedSimpArgs false
open Go.RowKit
/-- what the library's readers of numbers and words want of the world -/
structure EnvR (w : World) : Prop where
  ml : ∃ m, w.cell? ⟨1, 0, none⟩ = some (.int .i64 m)
  es : ∃ ev, w.cell? ⟨3, 0, none⟩ = some ev ∧ (ev = .nilIface ∨ ∃ te pe, ev = .iface te pe)
  er : ∃ ev, w.cell? ⟨4, 0, none⟩ = some ev ∧ (ev = .nilIface ∨ ∃ te pe, ev = .iface te pe)
  pw : Pow w
theorem EnvR.below {w w' : World} (h : EnvR w) (hb : Below w.heap.size w w') : EnvR w' := by
  obtain ⟨⟨m, h1⟩, ⟨e1, h2, h2'⟩, ⟨e2, h3, h3'⟩, h4⟩ := h
  exact ⟨⟨m, (hb.cell (p := ⟨_, 0, none⟩) (World.block_lt_of_cell? w _ h1)).trans h1⟩, ⟨e1, (hb.cell (p := ⟨_, 0, none⟩) (World.block_lt_of_cell? w _ h2)).trans h2, h2'⟩, ⟨e2, (hb.cell (p := ⟨_, 0, none⟩) (World.block_lt_of_cell? w _ h3)).trans h3, h3'⟩, h4.below hb⟩
theorem deci_any (x : Int) (w : World) (h : -9223372036854775808 ≤ x ∧ x ≤ 9223372036854775807) (tab : Pow w) : Calls Tryz.prog 33 #[.int .i64 x] w fun e w' => e = .returned (.string (strB (Lib.itoa x))) ∧ Below w.heap.size w w' := by
  have HF := Lib.hid (Tryz.strconv_FormatInt_10 x h.1 h.2 w tab)
  go_enter Tryz.func33, Tryz.ntmps33
  go_wp2_with (go_at_call 72; refine HF.out.mono ?_; rintro e w1 ⟨rfl, k, os, rfl⟩)
  go_ret
  exact ⟨rfl, Lib.below_grow _ _ (Nat.le_refl _) _ _⟩
theorem parse_bd {l : List UInt8} {v : Int} (h : Lib.parseIntB 64 l = .ok v) : -9223372036854775808 ≤ v ∧ v ≤ 9223372036854775807 := by
  unfold Lib.parseIntB at h
  cases l with
  | nil => cases h
  | cons c r =>
    simp only [] at h
    split at h
    · cases h
    · cases h
    · rename_i u _
      split at h
      · cases h
      · rename_i h1
        split at h
        · cases h
        · rename_i h2
          have h3 := Lib.NumEnd.ok.inj h
          by_cases hn : c.toNat = 45
          · rw [if_pos hn] at h3
            have : ¬ 2 ^ (64 - 1) < u := fun hh => h2 ⟨hn, hh⟩
            omega
          · rw [if_neg hn] at h3
            have : ¬ 2 ^ (64 - 1) ≤ u := fun hh => h1 ⟨hn, hh⟩
            omega
def rdV (o : Option Int) : Value := .tuple #[.int .i64 (o.getD 0), .bool o.isSome]
theorem rdD_ok {l : List UInt8} {v : Int} (h : Lib.parseIntB 64 l = .ok v) (he : Lib.itoa v = l) : rdDX l = some v := by
  unfold rdDX; rw [h]; simp only [he, if_true]
theorem rdD_ne {l : List UInt8} {v : Int} (h : Lib.parseIntB 64 l = .ok v) (he : ¬ Lib.itoa v = l) : rdDX l = none := by
  unfold rdDX; rw [h]; simp only [he, if_false]
theorem rdD_syn {l : List UInt8} (h : Lib.parseIntB 64 l = Lib.parseIntB 64 []) : rdDX l = none := by unfold rdDX; rw [h]; rfl
theorem rdD_rng {l : List UInt8} (h : Lib.parseIntB 64 l = .range) : rdDX l = none := by unfold rdDX; rw [h]
theorem str_eqb (l : List UInt8) (s : ByteArray) : ((strB l).toList == s.toList) = decide (l = s.data.toList) := by
  rw [ByteArray.toList_eq, ByteArray.toList_eq, strB_list, Bool.eq_iff_iff, beq_iff_eq, decide_eq_true_eq]
set_option maxRecDepth 20000 in
set_option maxHeartbeats 2000000 in
theorem readd_i (s : ByteArray) (w : World) (hs : s.size ≤ 2097152) (env : EnvR w) : Calls Tryz.prog 70 #[.string s] w fun e w' => e = .returned (rdV (rdDX s.data.toList)) ∧ Below w.heap.size w w' := by
  obtain ⟨⟨m, h1⟩, ⟨e1, h2, h2'⟩, ⟨e2, h3, h3'⟩, h4⟩ := env
  cases hp : Lib.parseIntB 64 s.data.toList with
  | ok v =>
    have hv := parse_bd hp
    have HP := Lib.hid (Tryz.strconv_ParseInt_10_at64_ok s (by omega) v hp w)
    have HD := Lib.hid (fun w' (hb : Below w.heap.size w w') => deci_any v w' hv (h4.below hb))
    have HQ := Lib.hid (str_eqb (Lib.itoa v) s)
    by_cases he : Lib.itoa v = s.data.toList
    · have HR := Lib.hid (rdD_ok hp he)
      rw [decide_eq_true he] at HQ
      have hq := HQ.out
      clear hp he h1 h2 h2' h3 h3' h4
      go_enter Tryz.func70, Tryz.ntmps70
      go_wp2_with (fail)
      refine HP.out.mono ?_; rintro e w1 ⟨rfl, hw1⟩
      have hb1 : Below w.heap.size w w1 := by
        rcases hw1 with rfl | ⟨t, rfl⟩
        · exact Below.refl _ _
        · exact Lib.bytesWorld_below _ _ _
      clear hw1
      go_wp2_with (fail)
      refine (HD.out w1 hb1).mono ?_; rintro e w2 ⟨rfl, hb2⟩
      go_wp2
      go_ret2
      exact ⟨by rw [HR.out]; rfl, hb1.trans (hb2.mono hb1.size)⟩
    · have HR := Lib.hid (rdD_ne hp he)
      rw [decide_eq_false he] at HQ
      have hq := HQ.out
      clear hp he h1 h2 h2' h3 h3' h4
      go_enter Tryz.func70, Tryz.ntmps70
      go_wp2_with (fail)
      refine HP.out.mono ?_; rintro e w1 ⟨rfl, hw1⟩
      have hb1 : Below w.heap.size w w1 := by
        rcases hw1 with rfl | ⟨t, rfl⟩
        · exact Below.refl _ _
        · exact Lib.bytesWorld_below _ _ _
      clear hw1
      go_wp2_with (fail)
      refine (HD.out w1 hb1).mono ?_; rintro e w2 ⟨rfl, hb2⟩
      go_wp2
      go_ret2
      exact ⟨by rw [HR.out]; rfl, hb1.trans (hb2.mono hb1.size)⟩
  | range =>
    have HP := Lib.hid (Tryz.strconv_ParseInt_10_at64_range s (by omega) hp e2 w h3 h3')
    have HR := Lib.hid (rdD_rng hp)
    clear hp h1 h2 h2' h3 h3' h4
    go_enter Tryz.func70, Tryz.ntmps70
    go_wp2_with (fail)
    refine HP.out.mono ?_; rintro e w1 ⟨N, rfl, _, _, hb1⟩
    go_wp2
    go_ret2
    exact ⟨by rw [HR.out]; rfl, hb1⟩
  | _ =>
    have HP := Lib.hid (Tryz.strconv_ParseInt_10_at64_syntax s (by omega) hp e1 w h2 h2')
    have HR := Lib.hid (rdD_syn hp)
    clear hp h1 h2 h2' h3 h3' h4
    go_enter Tryz.func70, Tryz.ntmps70
    go_wp2_with (fail)
    refine HP.out.mono ?_; rintro e w1 ⟨N, rfl, _, _, hb1⟩
    go_wp2
    go_ret2
    exact ⟨by rw [HR.out]; rfl, hb1⟩
theorem split_len (c : UInt8) (l : List UInt8) : ∀ acc, ∀ p ∈ splitF c acc l, p.length ≤ acc.length + l.length := by
  induction l with
  | nil => intro acc p hp; simp [splitF] at hp; subst hp; simp
  | cons b r ih =>
    intro acc p hp
    unfold splitF at hp
    split at hp
    · rcases List.mem_cons.1 hp with rfl | hp
      · simp
      · have := ih [] p hp; simp at this ⊢; omega
    · have := ih _ p hp; simp at this ⊢; omega
theorem nums_next {ws : List (List UInt8)} {k : Nat} {q : List UInt8} {x : Int} {acc : List Int} {X : Option (List Int)} (hq : ws[k]? = some q) (h : rdDX q = some x) (H : Hid (X = (numsD (ws.drop k)).map (fun l => acc ++ l))) : Hid (X = (numsD (ws.drop (k + 1))).map (fun l => (acc ++ [x]) ++ l)) := by
  obtain ⟨hk, rfl⟩ := List.getElem?_eq_some_iff.1 hq
  refine Lib.hid ?_
  rw [H.out, List.drop_eq_getElem_cons hk, numsD_cons, h, Option.bind_some, Option.map_map]
  congr 1
  funext l
  simp
theorem nums_stop {ws : List (List UInt8)} {k : Nat} {q : List UInt8} {acc : List Int} {X : Option (List Int)} (hq : ws[k]? = some q) (h : rdDX q = none) (H : Hid (X = (numsD (ws.drop k)).map (fun l => acc ++ l))) : X = none := by
  obtain ⟨hk, rfl⟩ := List.getElem?_eq_some_iff.1 hq
  rw [H.out, List.drop_eq_getElem_cons hk, numsD_cons, h]; rfl
theorem nums_end {ws : List (List UInt8)} {k : Nat} {acc : List Int} {X : Option (List Int)} (hk : ws.length ≤ k) (H : Hid (X = (numsD (ws.drop k)).map (fun l => acc ++ l))) : X = some acc := by
  rw [H.out, List.drop_of_length_le hk, numsD, Option.map_some, List.append_nil]
/-- what splitNumbers hands back -/
def SpN (w : World) (o : Option (List Int)) (e : Ending) (w' : World) : Prop := ∃ v, e = .returned (.tuple #[v, .bool o.isSome]) ∧ Int64L w.heap.size w' v (o.getD []) ∧ Below w.heap.size w w'
set_option maxRecDepth 20000 in
set_option maxHeartbeats 4000000 in
theorem splitn_i (s : ByteArray) (w : World) (hs : s.size ≤ 2097152) (env : EnvR w) : Calls Tryz.prog 30 #[.string s, .string ⟨#[32]⟩] w (SpN w (numsD (splitF 32 [] s.data.toList))) := by
  obtain ⟨i0, hi, hz0, hz1, hz2⟩ := info_parts icell_info
  obtain ⟨m, hml⟩ := env.ml
  have HS := Lib.hid (Tryz.strings_Split s ⟨#[32]⟩ m w (by omega) hml (by decide))
  have HW := Lib.hid (words_of s 32)
  have hlen : (Lib.splitB ⟨#[32]⟩ 0 (Lib.countB s ⟨#[32]⟩) s).length = Lib.countB s ⟨#[32]⟩ + 1 := Lib.splitB_all _ (by decide) 0 _ s rfl
  have hcl := Lib.countB_le ⟨#[32]⟩ (by decide) s.size s (Nat.le_refl _)
  have hwl : ∀ q ∈ Lib.splitB ⟨#[32]⟩ 0 (Lib.countB s ⟨#[32]⟩) s, q.size ≤ 2097152 := fun q hq => by
    have h1 : q.data.toList ∈ splitF 32 [] s.data.toList := by rw [← HW.out]; exact List.mem_map.2 ⟨q, hq, rfl⟩
    have h2 := split_len 32 s.data.toList [] _ h1
    rw [data_len, data_len] at h2
    simp at h2; omega
  generalize Lib.splitB ⟨#[32]⟩ 0 (Lib.countB s ⟨#[32]⟩) s = L at *
  generalize Lib.countB s ⟨#[32]⟩ = n at *
  rw [← HW.out]
  have HL := Lib.hid hlen
  have HWL := Lib.hid hwl
  have HEN := Lib.hid (fun w' (hb : Below w.heap.size w w') => env.below hb)
  clear hml HW hwl
  go_enter Tryz.func30, Tryz.ntmps30
  go_wp2_with (fail)
  refine HS.out.mono ?_; rintro e w1 ⟨rfl, hw1⟩
  have hb1 : Below w.heap.size w w1 := by rw [hw1]; exact Below.alloc (Below.refl _ _) (Nat.le_refl _) _
  have hz1' : w1.heap.size = w.heap.size + 1 := by rw [hw1]; simp
  have HC : Hid (∀ (k : Nat) (q : ByteArray), L[k]? = some q → w1.cell? ⟨w.heap.size, k, none⟩ = some (.string q)) := Lib.hid (fun k q hq => by
    rw [hw1]
    simp [go_sem, hq])
  clear hw1 HS
  have HO0 : Hid (Int64L w1.heap.size w1 (.slice none 0 0) []) := Lib.hid OwnL.of_nil
  go_wp2
  go_loopw [15, 6] (fun i x wr => ∃ (k : Nat) (acc : List Int), k ≤ n + 1 ∧ i = .int .i64 k ∧ Hid (acc.length = k) ∧ Below w1.heap.size w1 wr ∧ Hid (Int64L w1.heap.size wr x acc) ∧ Hid (numsD (L.map (·.data.toList)) = (numsD ((L.map (·.data.toList)).drop k)).map (fun l => acc ++ l))) (fun i _ _ => n + 1 - (intOf i).toNat)
  case atStart => exact ⟨0, [], by omega, rfl, Lib.hid rfl, Below.refl _ _, HO0, Lib.hid (by simp)⟩
  case round =>
    clear HO0
    obtain ⟨k, acc, hk, rfl, HAL, hb, HO, HN⟩ := hrel
    have zr := hb.size
    have hbw := hb1.trans (hb.mono hb1.size)
    obtain ⟨Ax, cx, rfl, _⟩ := OwnL.shape HO.out
    by_cases hlt : k < n + 1
    · obtain ⟨q, hq⟩ : ∃ q, L[k]? = some q := ⟨L[k]'(by rw [HL.out]; exact hlt), List.getElem?_eq_getElem (by rw [HL.out]; exact hlt)⟩
      have hqm : (L.map (·.data.toList))[k]? = some q.data.toList := by rw [List.getElem?_map, hq]; rfl
      have c0 := (hb.cell (p := ⟨w.heap.size, k, none⟩) (by show w.heap.size < _; omega)).trans (HC.out k q hq)
      have HRD := Lib.hid (readd_i q wr (HWL.out q (List.mem_of_getElem? hq)) (HEN.out wr hbw))
      have HY := Lib.hid (fun x hx => nums_next (x := x) hqm hx HN)
      have HZ := Lib.hid (fun hx => nums_stop hqm hx HN)
      generalize hrd : rdDX q.data.toList = o at *
      clear hq hqm hrd
      have hn63 : n ≤ 9223372036854775806 := by omega
      cases o with
      | none =>
        have HZ2 := Lib.hid (HZ.out rfl)
        have HRN : Hid (Calls Tryz.prog 70 #[.string q] wr fun e w' => e = .returned (.tuple #[.int .i64 0, .bool false]) ∧ Below wr.heap.size wr w') := HRD
        clear HY HZ HRD
        go_wp2_with (fail)
        refine HRN.out.mono ?_; rintro e w2 ⟨rfl, hb2⟩
        go_wp2
        go_ret2
        exact ⟨.slice none 0 0, by rw [HZ2.out]; rfl, by rw [HZ2.out]; exact OwnL.of_nil, hbw.trans (hb2.mono hbw.size)⟩
      | some x =>
        have HY2 := HY.out x rfl
        have hl1 : acc.length + 1 ≤ 16777216 := by rw [HAL.out]; omega
        have HRN : Hid (Calls Tryz.prog 70 #[.string q] wr fun e w' => e = .returned (.tuple #[.int .i64 x, .bool true]) ∧ Below wr.heap.size wr w') := HRD
        clear HY HZ HRD
        go_wp2_with (fail)
        refine HRN.out.mono ?_; rintro e w2 ⟨rfl, hb2⟩
        have HO2 := Lib.hid (OwnL.below HO.out hb2)
        have hb12 := hb.trans (hb2.mono zr)
        have hbase : w1.heap.size ≤ (w2.alloc (.cells #[.int .i64 x] 2)).heap.size := by have := hb12.size; simp; omega
        go_wp2_with (at_builtin; refine wpList_app1 icell 1 icell_len _ rfl _ _ _ rfl w1.heap.size 2 i0 (.int .i64 0) 8 Tryz.underlying25 hi hz0 hz1 hz2 rfl (by decide) _ acc rfl (HO2.out.alloc _) _ 1 x rfl ?_ (by simp [icell, Value.oneCell']) hl1 (by decide) hbase ?_; (· intro j u hu; cases j with | zero => (simp [icell] at hu; subst hu; simp) | succ j => simp [icell] at hu); intro v8 w8 how8 hg8'; have hb8 : Below w1.heap.size w1 w8 := own_grown_below (HO2.out.alloc (.cells #[.int .i64 x] 2)) (Below.alloc hb12 hb12.size _) hg8' (Nat.le_refl _) hbase; have HO8 := Lib.hid how8)
        go_roundw
        case rel => exact ⟨k + 1, acc ++ [x], by omega, by go_num, Lib.hid (by rw [List.length_append, HAL.out]; rfl), hb8, HO8, HY2⟩
        case measure => simp [intOf]; omega
    · have HE := Lib.hid (nums_end (by rw [List.length_map, HL.out]; omega) HN)
      have HO2 := HO.out
      go_wp2
      go_ret2
      exact ⟨_, by rw [HE.out]; rfl, by rw [HE.out]; exact OwnL.base HO2 hb1.size, hbw⟩
end Go.Proofs.YtddihmpiaemadaaGreatDoor
namespace Go.Proofs.YtddihmpiaemadaaGreatDoor
set_option linter.unusedVariables false
set_option linter.unusedSimpArgs false
open Go.RowKit Go.Shelf
attribute [local go_sem] Oper.semAt_some
theorem lines_call (s : ByteArray) (w : World) : Calls Tryz.prog 27 #[.string s] w fun e w' => e = .returned (.func (.func 65) #[] #[.pointer (some ⟨w.heap.size, 0, none⟩)]) ∧ w' = w.alloc (.cells #[.string s] 9) := by
  go_enter Tryz.func27, Tryz.ntmps27
  go_wp2
  go_ret
  exact ⟨rfl, rfl⟩
/-- how long the text in the box is, read off the world -/
def leftB (b : Nat) (w : World) : Nat := match w.cell? ⟨b, 0, none⟩ with
  | some (.string t) => t.size
  | _ => 0
theorem leftB_eq {b : Nat} {w : World} {t : ByteArray} (h : w.cell? ⟨b, 0, none⟩ = some (.string t)) : leftB b w = t.size := by unfold leftB; rw [h]
theorem index_byte (l : List UInt8) (c : UInt8) : Lib.indexByte l c = Lib.index l [c] := by
  induction l with
  | nil => rw [index_nil]; rfl
  | cons b l ih =>
    rw [index_cons, Lib.indexByte, ih]
    by_cases h : b = c
    · rw [if_pos h, if_pos (by simpa using h)]
    · rw [if_neg h, if_neg (by simpa using h)]
theorem strB_extract (l : List UInt8) (a b : Nat) : (strB l).extract a b = strB ((l.drop a).take (b - a)) := by
  rw [← strB_data ((strB l).extract a b), Lib.extract_data, strB_list]
theorem line_take {p r : List UInt8} : (strB (p ++ 10 :: r)).extract 0 (p.length + 1) = strB (p ++ [10]) := by
  rw [strB_extract]
  congr 1
  rw [List.drop_zero, Nat.sub_zero, List.take_length_add_append]; rfl
theorem line_drop {p r : List UInt8} : (strB (p ++ 10 :: r)).extract (p.length + 1) (p.length + 1 + r.length) = strB r := by
  rw [strB_extract]
  congr 1
  rw [List.drop_length_add_append, show p.length + 1 + r.length - (p.length + 1) = r.length by omega]
  simp
set_option maxRecDepth 100000 in
set_option maxHeartbeats 2000000 in
theorem lines_seq (n b : Nat) (s : List UInt8) (w : World) (hn : 1 ≤ n) (hs : s.length ≤ 1048576) (hc : w.cell? ⟨b, 0, none⟩ = some (.string (strB s))) (hf : w.frozen? ⟨b, 0, none⟩ = false) :
    SeqBox n Tryz.prog 65 #[.pointer (some ⟨b, 0, none⟩)] (fun x : List UInt8 => .string (strB x)) b (linesF [] s) w := by
  intro l J Jx W hW hJ hJb hY h0
  have hb := World.block_lt_of_cell? w _ hc
  have hcW := (hW.cell (p := ⟨b, 0, none⟩) hb).trans hc
  have hfW := (hW.frozen (p := ⟨b, 0, none⟩) hb).trans hf
  have hmx : Tryz.prog.follows .mixedOrders = true := by kernel_rfl
  refine callsIn_of_wp Tryz.func65 rfl trivial ?_ rfl
  simp only [Tryz.ntmps65, List.size_toArray, List.length_cons, List.length_nil, Nat.reduceAdd, Nat.reduceSub, Array.replicate_succ, Array.replicate_zero, List.push_toArray, List.append_toArray, List.nil_append, List.cons_append]
  gi_wp2
  gi_loopw [3] (fun _ wr => ∃ (pre : List (List UInt8)) (r : List UInt8), linesF [] s = pre ++ linesF [] r ∧ r.length ≤ 1048576 ∧ wr.cell? ⟨b, 0, none⟩ = some (.string (strB r)) ∧ wr.frozen? ⟨b, 0, none⟩ = false ∧ J pre wr) (fun _ wr => leftB b wr)
  case atStart => exact ⟨[], s, rfl, hs, hcW, hfW, h0⟩
  case round =>
    obtain ⟨pre, r, hx, hrl, hcr, hfr, hJs⟩ := hrel
    have hsz := strB_size r
    have hML := leftB_eq hcr
    have HI := Lib.hid (Tryz.strings_IndexByte (strB r) 10 wr)
    rcases byte_cases 10 r with h10 | ⟨p, r', hp, rfl⟩
    · by_cases hr0 : r = []
      · subst hr0
        rw [show strB [] = .empty from rfl] at hcr
        have hx' : linesF [] s = pre := by rw [hx]; simp [linesF]
        gi_wp2
        go_end0
        exact ⟨⟨_, rfl⟩, .inl (by rw [hx']; exact hJs)⟩
      · have hlen : 0 < r.length := List.length_pos_iff.2 hr0
        have hx' : linesF [] s = pre ++ [r] := by rw [hx, linesF_no h10 [] (by simpa using hr0)]; rfl
        have hI2 : Hid (Calls Tryz.prog 66 #[.string (strB r), .int .u8 10] wr fun e w' => e = .returned (.int .i64 (-1)) ∧ w' = wr) := Lib.hid (by
          refine HI.out.mono ?_
          rintro e w' ⟨rfl, hw⟩
          refine ⟨ret_int ?_, hw⟩
          rw [index_byte, strB_list]; exact index_no h10)
        have HX := Lib.hid hx'
        have d1 : decide (0 < (strB r).size) = true := decide_eq_true (by omega)
        have d2 : decide ((0 : Int) < ((strB r).size : Int)) = true := decide_eq_true (by omega)
        obtain ⟨fn, tmps, assign, body, hy, hR⟩ := hY pre r (wr.setCell ⟨b, 0, none⟩ (.string { data := #[] })) (hJb _ _ _ hJs) (by rw [hx']; exact List.prefix_refl _)
        clear hx hx' h10 hr0 HI
        generalize hrr : strB r = sr at *
        gi_wp2_with (refine ⟨trivial, ?_⟩; gi_at_call 66; refine (callsIn_wide.2 hI2.out).mono ?_; rintro e w' ⟨rfl, hw⟩; obtain rfl := hw.symm)
        refine hR.mono ?_
        rintro e W3 (⟨rfl, hJ3, hk3⟩ | ⟨rfl, hJx3⟩)
        · have hc3 : W3.cell? ⟨b, 0, none⟩ = some (.string (strB [])) := (World.cell?_of_block (a := ⟨b, 0, none⟩) hk3).trans (World.cell?_setCell_same _ _ _ hcr)
          have hf3 : W3.frozen? ⟨b, 0, none⟩ = false := (World.frozen?_of_block (a := ⟨b, 0, none⟩) hk3).trans ((World.frozen?_setCell _ _ _ _).trans hfr)
          have hm3 := leftB_eq hc3
          gi_wp2
          go_roundw
          case rel => exact ⟨pre ++ [r], [], by rw [HX.out]; simp [linesF], by simp, hc3, hf3, hJ3⟩
          case measure => rw [hm3, hML]; simp [strB_size]; omega
        · gi_wp2
          refine bodyPost_ret (results_none rfl _ _ _) rfl ?_
          exact ⟨⟨_, rfl⟩, .inr ⟨pre ++ [r], by rw [HX.out]; exact List.prefix_refl _, hJx3⟩⟩
    · have hlen : (p ++ 10 :: r').length = p.length + 1 + r'.length := by simp; omega
      have hx' : linesF [] s = (pre ++ [p ++ [10]]) ++ linesF [] r' := by rw [hx, linesF_hit hp]; simp
      have hI2 : Hid (Calls Tryz.prog 66 #[.string (strB (p ++ 10 :: r')), .int .u8 10] wr fun e w' => e = .returned (.int .i64 (p.length : Int)) ∧ w' = wr) := Lib.hid (by
        refine HI.out.mono ?_
        rintro e w' ⟨rfl, hw⟩
        refine ⟨ret_int ?_, hw⟩
        rw [index_byte, strB_list]; exact index_at hp r')
      have HX := Lib.hid hx'
      have d1 : decide (0 < (strB (p ++ 10 :: r')).size) = true := decide_eq_true (by omega)
      have d2 : decide ((0 : Int) < ((strB (p ++ 10 :: r')).size : Int)) = true := decide_eq_true (by omega)
      have e1 := line_take (p := p) (r := r')
      have e2 := line_drop (p := p) (r := r')
      obtain ⟨fn, tmps, assign, body, hy, hR⟩ := hY pre (p ++ [10]) (wr.setCell ⟨b, 0, none⟩ (.string (strB r'))).drew (hJ _ _ _ none (hJb _ _ _ hJs) ⟨rfl, rfl, rfl, Nat.le_refl _, fun _ _ _ => rfl⟩ (fun r e => by cases e)) (by rw [hx']; exact List.prefix_append _ _)
      have hpl : p.length + 1 ≤ (strB (p ++ 10 :: r')).size := by omega
      have hrl' : r'.length ≤ 1048576 := by omega
      generalize hrr : strB (p ++ 10 :: r') = sr at *
      generalize hqq : strB (p ++ [10]) = sq at *
      have hrB : (strB r').size = r'.length := strB_size r'
      generalize hss : strB r' = ss at *
      clear hx hx' HI
      gi_wp2_with (refine ⟨trivial, ?_⟩; gi_at_call 66; refine (callsIn_wide.2 hI2.out).mono ?_; rintro e w' ⟨rfl, hw⟩; obtain rfl := hw.symm)
      have hcd : wr.drew.cell? ⟨b, 0, none⟩ = some (.string sr) := hcr
      have hfd : wr.drew.frozen? ⟨b, 0, none⟩ = false := hfr
      gi_region_o
      all_goals
        gi_wp2
        refine hR.mono ?_
        rintro e W3 (⟨rfl, hJ3, hk3⟩ | ⟨rfl, hJx3⟩)
        · have hc3 : W3.cell? ⟨b, 0, none⟩ = some (.string ss) := (World.cell?_of_block (a := ⟨b, 0, none⟩) hk3).trans (World.cell?_setCell_same _ _ _ hcr)
          have hf3 : W3.frozen? ⟨b, 0, none⟩ = false := (World.frozen?_of_block (a := ⟨b, 0, none⟩) hk3).trans ((World.frozen?_setCell _ _ _ _).trans hfr)
          have hm3 := leftB_eq hc3
          gi_wp2
          go_roundw
          case rel => exact ⟨pre ++ [p ++ [10]], r', HX.out, hrl', by rw [hss]; exact hc3, hf3, hJ3⟩
          case measure => rw [hm3, hML, hrB, hsz]; omega
        · gi_wp2
          refine bodyPost_ret (results_none rfl _ _ _) rfl ?_
          exact ⟨⟨_, rfl⟩, .inr ⟨pre ++ [p ++ [10]], by rw [HX.out]; exact List.prefix_append _ _, hJx3⟩⟩
end Go.Proofs.YtddihmpiaemadaaGreatDoor
namespace Go.Proofs.YtddihmpiaemadaaGreatDoor
set_option linter.unusedVariables false
set_option linter.unusedSimpArgs false
open Go.RowKit
end Go.Proofs.YtddihmpiaemadaaGreatDoor
namespace Go.Proofs.YtddihmpiaemadaaGreatDoor
set_option linter.unusedVariables false
set_option linter.unusedSimpArgs false
open Go.RowKit Go.Shelf
attribute [local go_sem] Oper.semAt_some
def ents (p : List (List UInt8)) : List Ent := (entsI p).getD []
theorem ownFrom_size {β : Type} (B n : Nat) : OwnFrom B (fun (_ : β) W => n ≤ W.heap.size) := fun _ _ _ _ hs hg _ => Nat.le_trans hs hg.size
theorem boxed_kept {W W' : World} {row : Option Nat} {B : Nat} {t : TypeId} {v : Value} (h : Boxed W B t v) (hg : W.grownBy W' row) (hr : ∀ r, row = some r → ∃ o : Obj, W.heap[r]? = some o ∧ o.isCells = false) : Boxed W' B t v :=
  h.kept hg (fun e => by obtain ⟨o, ho, hc⟩ := hr B e.symm; rw [show W.heap[B]? = _ from h] at ho; cases ho; cases hc)
theorem boxed_far {W : World} {B b : Nat} {t : TypeId} {v : Value} (h : Boxed W B t v) (hne : B ≠ b) (u : Value) : Boxed (W.setCell ⟨b, 0, none⟩ u) B t v := h.kept (grownBy_setCell' W b u) (by intro e; injection e with e; exact hne e)
theorem keeps_below {W W' : World} (h : Below W.heap.size W W') : KeepsOthers W W' := ⟨h.size, fun k o hk _ => (h.block k (Array.getElem?_eq_some_iff.1 hk).1).trans hk⟩
theorem cut_len (l : List UInt8) : (Lib.cut l [32]).1.length ≤ l.length ∧ (Lib.cut l [32]).2.1.length ≤ l.length := by
  unfold Lib.cut
  split
  · exact ⟨by simp; exact Nat.min_le_right _ _, by simp⟩
  · simp
theorem trim_len (l : List UInt8) : (Lib.trimSuffix l [10]).length ≤ l.length := by
  unfold Lib.trimSuffix
  split
  · simp
  · exact Nat.le_refl _
def pickE (v : List UInt8) : List Int → Option Ent
  | [b, a, c] => some ⟨strB v, b, a, c⟩
  | _ => none
end Go.Proofs.YtddihmpiaemadaaGreatDoor
namespace Go.Proofs.YtddihmpiaemadaaGreatDoor
set_option linter.unusedVariables false
set_option linter.unusedSimpArgs false
open Go.RowKit
theorem list_round {P : Program} {ops : Array Oper} {l0 m : Nat} {Q : Exit → Act → World → Prop} (hno : ¬ LetsOut Q) : ∀ (l : List Oper), noDef l = true → ∀ (a : Act) (w : World), wpList P ops Q l a w → wpListIn (Fence.wide.inRound l0) m P ops Q l a w
  | [], _, _, _, h => h
  | o :: l, hd, a, w, h => by
    have hd1 : noDef l = true := by
      unfold noDef at hd ⊢
      rw [List.all_cons, Bool.and_eq_true] at hd
      exact hd.2
    have ho : ∀ c, o.op ≠ .defer c := fun c e => by
      unfold noDef at hd
      rw [List.all_cons, Bool.and_eq_true, e] at hd
      exact absurd hd.1 (by simp)
    rw [wpList] at h
    rw [wpListIn]
    by_cases hw : Region.wanted o (yielded ops a.tmps) = true
    · rw [if_pos hw] at h ⊢
      rcases h with h | h
      · exact oper_round ho (Oper.wp_mono (fun a w h => list_round hno l hd1 a w h) h)
      · exact absurd h.2 hno
    · rw [if_neg hw] at h ⊢
      exact ⟨fun _ _ => trivial, list_round hno l hd1 _ _ h⟩
end Go.Proofs.YtddihmpiaemadaaGreatDoor
