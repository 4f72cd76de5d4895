/- l23Group, l23Make, MakeParity: the walks. l23Size and l23Left of the reference: the walks; the size by both sides. l23Size and l23Left of the reference: the walks. RestoreOne, impl and spec: the law and the walks. RestoreOne of the reference: the walks. RestoreTwo: the law; the walk of the implementation. -/
import Derived.Test.YtddihmpiaemadaaGreatDoorFc16
import Derived.Test.YtddihmpiaemadaaGreatDoorFc15
import Derived.Test.YtddihmpiaemadaaGreatDoorFc09
import Derived.StillTailTactics
import Derived.Deep.RegionHeld3
namespace Go.Proofs.YtddihmpiaemadaaGreatDoor
set_option linter.unusedVariables false
set_option linter.unusedSimpArgs false
open Go.RowKit

theorem sz_yes {n k : Nat} {l : List ByteArray} {s : ByteArray} (hs : l[k]? = some s) (H : Hid (sizesAre n l = sizesAre n (l.drop k))) (h : s.size = n) : Hid (sizesAre n l = sizesAre n (l.drop (k + 1))) := by
  obtain ⟨hk, rfl⟩ := List.getElem?_eq_some_iff.1 hs
  exact Lib.hid (by rw [H.out, List.drop_eq_getElem_cons hk]; unfold sizesAre; rw [List.all_cons, decide_eq_true h, Bool.true_and])
theorem sz_no {n k : Nat} {l : List ByteArray} {s : ByteArray} (hs : l[k]? = some s) (H : Hid (sizesAre n l = sizesAre n (l.drop k))) (h : ¬ s.size = n) : sizesAre n l = false := by
  obtain ⟨hk, rfl⟩ := List.getElem?_eq_some_iff.1 hs
  rw [H.out, List.drop_eq_getElem_cons hk]; unfold sizesAre; rw [List.all_cons, decide_eq_false h, Bool.false_and]
set_option maxHeartbeats 1000000 in
theorem group_s (l : List ByteArray) (v : Value) (w : World) (h : StrL w v l) (hm : l.length ≤ maxLen) :
    Calls Tryz.prog 99 #[v] w fun e w' => e = .returned (.bool (groupB l)) ∧ Qt w w' := by
  have hml : l.length ≤ 9223372036854775807 := by unfold maxLen at hm; omega
  obtain ⟨A, c, rfl, hA⟩ := h
  by_cases hb : 1 ≤ l.length ∧ l.length ≤ 128
  · have b0 : inB l.length 1 128 = true := inB_t (by omega)
    rcases hA with rfl | ⟨g, rfl, hg, hc⟩
    · simp at hb
    obtain ⟨s0, h0⟩ : ∃ s, l[0]? = some s := ⟨l[0]'(by omega), List.getElem?_eq_getElem (by omega)⟩
    have p0 := hc 0 s0 h0
    have H1 := Lib.hid (groupB_at h0 hb.2)
    have HC := Lib.hid hc
    have hl0 : 0 < l.length := hb.1
    clear h0 hc
    cases hs : inB s0.size 1 64
    · go_enter Tryz.func99, Tryz.ntmps99
      go_wp2_with (first | (go_at_call 50; refine (in_s _ _ _ _).mono ?_; rintro e w1 ⟨rfl, rfl⟩))
      go_ret
      have := inB_no hs
      refine ⟨ret_bool ?_, Qt.refl _⟩
      rw [H1.out]
      have e : (decide (1 ≤ s0.size) && decide (s0.size ≤ 64)) = false := by simp; omega
      rw [e]; rfl
    · have := inB_yes hs
      have H2 : Hid (groupB l = sizesAre s0.size l) := Lib.hid (by
        have e : (decide (1 ≤ s0.size) && decide (s0.size ≤ 64)) = true := by simp; omega
        rw [H1.out, e, Bool.true_and])
      go_enter Tryz.func99, Tryz.ntmps99
      go_wp2_with (first | (go_at_call 50; refine (in_s _ _ _ _).mono ?_; rintro e w1 ⟨rfl, rfl⟩))
      go_loopw [3] (fun i wr => ∃ k : Nat, k ≤ l.length ∧ i = .int .i64 k ∧ Qt w wr ∧ Hid (sizesAre s0.size l = sizesAre s0.size (l.drop k))) (fun i _ => l.length - (intOf i).toNat)
      case atStart => exact ⟨0, by omega, rfl, Qt.refl _, Lib.hid rfl⟩
      case round =>
        obtain ⟨k, hk, rfl, hq, HK⟩ := hrel
        by_cases hlt : k < l.length
        · obtain ⟨s, hs⟩ : ∃ s, l[k]? = some s := ⟨l[k], List.getElem?_eq_getElem hlt⟩
          have pk := (hq.cell _).trans (HC.out k s hs)
          have pz := (hq.cell _).trans p0
          have HS := Lib.hid hs
          clear hs
          by_cases hsz : s.size = s0.size
          · have hd : ((s.size : Int) != (s0.size : Int)) = false := by simp [hsz]
            have HX := Lib.hid hsz
            clear hsz
            go_wp2
            go_quiet (fail)
            go_wp2
            go_roundw
            case rel => exact ⟨k + 1, by omega, by go_num, hq.drewN _, sz_yes HS.out HK HX.out⟩
            case measure => simp [intOf]; omega
          · have hd : ((s.size : Int) != (s0.size : Int)) = true := by simp; omega
            have HX := Lib.hid hsz
            clear hsz
            go_wp2
            go_quiet (fail)
            go_wp2
            go_ret
            exact ⟨ret_bool (H2.out.trans (sz_no HS.out HK HX.out)).symm, hq.drewN _⟩
        · go_wp2
          go_ret
          exact ⟨ret_bool (by rw [H2.out, HK.out, List.drop_of_length_le (by omega)]; rfl), hq⟩
  · have b0 : inB l.length 1 128 = false := inB_f (by omega)
    have HF : Hid (groupB l = false) := Lib.hid (by
      by_cases h : 128 < l.length
      · exact groupB_long h
      · obtain rfl : l = [] := List.eq_nil_of_length_eq_zero (by omega)
        rfl)
    clear hA
    go_enter Tryz.func99, Tryz.ntmps99
    go_wp2_with (first | (go_at_call 50; refine (in_s _ _ _ _).mono ?_; rintro e w1 ⟨rfl, rfl⟩))
    go_ret
    exact ⟨ret_bool HF.out.symm, Qt.refl _⟩
theorem quiet_plus (g c f n : Nat) (l : List Nat) (s : ByteArray) (hn : l.length = n) (hl1 : l.length ≤ s.size) (hs : s.size ≤ 2097152) (hf : f < 256) (hlb : ∀ x ∈ l, x < 256) :
    Hid (∀ w : World, g < w.heap.size → Buf w g l → Calls Tryz.prog 134 #[.slice (some ⟨g, 0, none⟩) n c, .int .i64 f, .string s] w fun e w' => e = .returned (.tuple #[]) ∧ Buf w' g (plusN l f (bts s)) ∧ Chg g (g + 1) w w' ∧ w'.heap.size = w.heap.size) := by
  subst hn
  exact Lib.hid fun w hg hB => plus_s g c f l s w hg hB hl1 hs hf hlb
set_option maxRecDepth 20000 in
set_option maxHeartbeats 1000000 in
theorem make_s (l : List ByteArray) (n : Nat) (v : Value) (w : World) (h : StrL w v l) (hm : l.length ≤ 1048576) (hl : ∀ s ∈ l, s.size = n) (hn : n ≤ 1048576) (hn1 : 1 ≤ n) :
    Calls Tryz.prog 100 #[v, .int .i64 n] w fun e w' => e = .returned (.tuple #[.slice (some ⟨w.heap.size, 0, none⟩) n n, .slice (some ⟨w.heap.size + 1, 0, none⟩) n n]) ∧ Buf w' w.heap.size (parF (List.replicate n 0) (List.replicate n 0) 0 l).1 ∧ Buf w' (w.heap.size + 1) (parF (List.replicate n 0) (List.replicate n 0) 0 l).2 ∧ Below w.heap.size w w' ∧ w.heap.size + 2 ≤ w'.heap.size := by
  obtain ⟨A, c, rfl, hA⟩ := h
  obtain ⟨wa, hm1, hba, hb1, hz1⟩ := buf_made w n (by omega)
  obtain ⟨wb, hm2, hbb, hb2, hz2⟩ := buf_made wa n (by omega)
  have hba2 := hba.below hb2 (by omega)
  rw [hz1] at hbb hm2
  have hB : Below w.heap.size w wb := hb1.trans (hb2.mono (by omega))
  go_enter Tryz.func100, Tryz.ntmps100
  go_wp2
  go_loopw [8] (fun i wr => ∃ (k : Nat) (p q : List Nat), k ≤ l.length ∧ i = .int .i64 k ∧ p.length = n ∧ q.length = n ∧ (∀ x ∈ p, x < 256) ∧ (∀ x ∈ q, x < 256) ∧ Below w.heap.size w wr ∧ w.heap.size + 2 ≤ wr.heap.size ∧ Buf wr w.heap.size p ∧ Buf wr (w.heap.size + 1) q ∧ Hid (parF (List.replicate n 0) (List.replicate n 0) 0 l = parF p q k (l.drop k))) (fun i _ => l.length - (intOf i).toNat)
  case atStart => exact ⟨0, _, _, by omega, rfl, by simp, by simp, zeros_lt, zeros_lt, hB, by omega, hba2, hbb, Lib.hid rfl⟩
  case round =>
    obtain ⟨k, p, q, hk, rfl, hp, hq, bp, bq, hb, hz, Bp, Bq, HK⟩ := hrel
    by_cases hlt : k < l.length
    · obtain ⟨s, hs⟩ : ∃ s, l[k]? = some s := ⟨l[k], List.getElem?_eq_getElem hlt⟩
      obtain ⟨g, rfl, hg, hc⟩ := hA.resolve_left (by rintro rfl; simp at hlt)
      have hsn := hl s (List.mem_of_getElem? hs)
      have pk := (hb.cell (p := ⟨g, k, none⟩) hg).trans (hc k s hs)
      have hsl := bts_len s
      have HS := Lib.hid hs
      have hgl := gpow_lt (m255 (k : Int))
      have P1 := quiet_plus w.heap.size n 1 n p s hp (by omega) (by omega) (by omega) bp
      have P2 := quiet_plus (w.heap.size + 1) n (gpow (m255 (k : Int))) n q s hq (by omega) (by omega) hgl bq
      have l1 := plusN_len (a := p) (f := 1) (b := bts s) (by omega)
      have l2 := plusN_len (a := q) (f := gpow (m255 k)) (b := bts s) (by omega)
      clear hs hc hA
      go_wp2_with (fail)
      refine (P1.out wr (by omega) Bp).mono ?_; rintro e w3 ⟨rfl, k3, c3, s3⟩
      have Bq3 := Bq.chg c3 (by omega) (by omega)
      have hb3 : Below w.heap.size w w3 := hb.trans ⟨c3.os, c3.tape, c3.output, c3.size, fun j hj => c3.block j (by omega) (by omega)⟩
      have pk3 := (c3.block g (by omega) (by omega))
      have pc3 := (World.cell?_of_block (a := ⟨g, k, none⟩) pk3).trans pk
      go_wp2_with (fail)
      have q1 := (show ({ w3 with drawn := w3.drawn + 1 } : World).cell? _ = _ from pc3)
      go_still_tail 7, (by kernel_rfl)
      still_call (still_cP (gpow_s k _ (by omega)))
      repeat still_step
      refine wpStill_nil ?_
      go_wp2_with (fail)
      refine (P2.out _ ?_ ?_).mono ?_
      · show _ < w3.heap.size; omega
      · exact Bq3.block rfl
      rintro e w4 ⟨rfl, k4, c4, s4⟩
      have s4' : w4.heap.size = w3.heap.size := s4
      have b4 : ∀ j, j < w3.heap.size → ¬ (w.heap.size + 1 ≤ j ∧ j < w.heap.size + 1 + 1) → w4.heap[j]? = w3.heap[j]? := c4.block
      have Bp4 := k3.block (w' := w4) (b4 w.heap.size (by omega) (by omega))
      have hb4 : Below w.heap.size w w4 := hb3.trans ⟨c4.os, c4.tape, c4.output, c4.size, fun j hj => b4 j (by omega) (by omega)⟩
      clear s4 c4
      go_wp2
      go_roundw
      case rel => exact ⟨k + 1, _, _, by omega, by go_num, by omega, by omega, plusN_lt bp bts_lt, plusN_lt bq bts_lt, hb4, by omega, Bp4, k4, par_next HS.out HK (by omega)⟩
      case measure => simp [intOf]; omega
    · go_wp2
      have HE := par_end (by omega) HK
      rw [HE]
      exact bodyPost_ret (by simp [results, Tryz.results100, go_sem]; try rfl) rfl ⟨rfl, Bp, Bq, hb, hz⟩
/-- what MakeParity returns -/
def mkR (l : List ByteArray) : ByteArray × ByteArray × Int :=
  if groupB l then (strN (parF (List.replicate (l.headD .empty).size 0) (List.replicate (l.headD .empty).size 0) 0 l).1, strN (parF (List.replicate (l.headD .empty).size 0) (List.replicate (l.headD .empty).size 0) 0 l).2, 0) else (.empty, .empty, 1)
theorem mkR_no {l : List ByteArray} (h : groupB l = false) : mkR l = (.empty, .empty, 1) := by unfold mkR; rw [h]; rfl
theorem mkR_yes {l : List ByteArray} {s : ByteArray} (h : groupB l = true) (hs : l[0]? = some s) : mkR l = (strN (parF (List.replicate s.size 0) (List.replicate s.size 0) 0 l).1, strN (parF (List.replicate s.size 0) (List.replicate s.size 0) 0 l).2, 0) := by
  cases l with
  | nil => cases hs
  | cons a r =>
    obtain rfl : a = s := by simpa using hs
    unfold mkR; rw [h]; rfl
def mkV (l : List ByteArray) : Value := .tuple #[.string (mkR l).1, .string (mkR l).2.1, .int .i64 (mkR l).2.2]
set_option maxHeartbeats 1000000 in
theorem mk_s (l : List ByteArray) (v : Value) (w : World) (h : StrL w v l) (hm : l.length ≤ 1048576) :
    Calls Tryz.prog 77 #[v] w fun e w' => e = .returned (mkV l) ∧ Below w.heap.size w w' := by
  have hmm : l.length ≤ maxLen := by unfold maxLen; omega
  cases hg : groupB l
  · have HF : Hid (mkV l = .tuple #[.string .empty, .string .empty, .int .i64 1]) := Lib.hid (by unfold mkV; rw [mkR_no hg])
    go_enter Tryz.func77, Tryz.ntmps77
    go_wp2_with (go_at_call 99; refine (group_s l _ _ h hmm).mono ?_; rintro e w1 ⟨rfl, hb1⟩)
    rw [HF.out]
    exact bodyPost_ret (by simp [results, Tryz.results77, go_sem]; try rfl) rfl ⟨rfl, hb1.below _⟩
  · obtain ⟨s, hs, h1, h2, h3, h4, h5⟩ := groupB_size hg
    have HF : Hid (mkV l = .tuple #[.string (strN (parF (List.replicate s.size 0) (List.replicate s.size 0) 0 l).1), .string (strN (parF (List.replicate s.size 0) (List.replicate s.size 0) 0 l).2), .int .i64 0]) := Lib.hid (by unfold mkV; rw [mkR_yes hg hs])
    have hpl := (parF_len (n := s.size) (k := 0) (l := l) (p := List.replicate s.size 0) (q := List.replicate s.size 0) (by simp) (by simp) (fun t ht => .inr (h5 t ht)))
    have HP1 := Lib.hid hpl.1
    have HP2 := Lib.hid hpl.2
    have H := h
    obtain ⟨A, c, rfl, hA⟩ := h
    obtain ⟨g, rfl, hgl, hc⟩ := hA.resolve_left (by rintro rfl; simp at hs)
    have p0 := hc 0 s hs
    have HH := Lib.hid H
    have H5 := Lib.hid h5
    clear hs hc H h5 hA hpl
    go_enter Tryz.func77, Tryz.ntmps77
    go_wp2_with (go_at_call 99; refine (group_s l _ _ HH.out hmm).mono ?_; rintro e w1 ⟨rfl, hb1⟩; have p1 := (hb1.cell ⟨g, 0, none⟩).trans p0)
    refine (make_s l s.size _ _ (HH.out.below (hb1.below w.heap.size) (Nat.le_refl _)) hm H5.out (by omega) h1).mono ?_; rintro e w2 ⟨rfl, k1, k2, hb2, hz2⟩
    have z1 := hb1.size
    have hbq := hb1.below w.heap.size
    rw [z1] at k1 k2 hz2 hb2 ⊢
    have t1 : ∀ n, (convert 22 9 (.slice (some ⟨w.heap.size, 0, none⟩) s.size s.size)).run Tryz.prog (w2.drewN n) = .ok (.string (strN (parF (List.replicate s.size 0) (List.replicate s.size 0) 0 l).1)) (w2.drewN n) := fun n => Buf.str (w := w2.drewN n) k1 HP1.out
    have t2 : ∀ n, (convert 22 9 (.slice (some ⟨w.heap.size + 1, 0, none⟩) s.size s.size)).run Tryz.prog (w2.drewN n) = .ok (.string (strN (parF (List.replicate s.size 0) (List.replicate s.size 0) 0 l).2)) (w2.drewN n) := fun n => Buf.str (w := w2.drewN n) k2 HP2.out
    go_wp2_with (fail)
    go_quiet (fail)
    go_wp2
    rw [HF.out]
    exact bodyPost_ret (by simp [results, Tryz.results77, go_sem]; try rfl) rfl ⟨rfl, below_drewN (hbq.trans hb2) _⟩
end Go.Proofs.YtddihmpiaemadaaGreatDoor
namespace Go.Proofs.YtddihmpiaemadaaGreatDoor
set_option linter.unusedVariables false
set_option linter.unusedSimpArgs false
open Go.RowKit
def sz1 : Nat → List ByteArray → Option Nat
  | c, [] => some c
  | c, s :: r => if c = 0 then sz1 s.size r else if (!s.toList.isEmpty && decide (s.size ≠ c)) = true then none else sz1 c r
def sz2 (L : List Int) : Nat → Nat → List ByteArray → Option Nat
  | c, _, [] => some c
  | c, k, b :: r => if hasB L k = true then sz2 L c (k + 1) r else if b.size = (if c = 0 then b.size else c) ∧ (if c = 0 then b.size else c) ≠ 0 then sz2 L (if c = 0 then b.size else c) (k + 1) r else none
def szS (bl : List ByteArray) (L : List Int) (mo : List ByteArray) : Nat := match sz1 0 mo with
  | none => 0
  | some c => match sz2 L c 0 bl with
    | none => 0
    | some d => if 64 < d ∨ 128 < bl.length ∨ bl.length = 0 then 0 else d
theorem emp_iff {s : ByteArray} : s.toList.isEmpty = true ↔ s.size = 0 := by
  constructor
  · intro h
    by_cases h0 : s.size = 0
    · exact h0
    · rw [emp_noP h0] at h; cases h
  · exact emp_yesP
/-- a number that all of these strings have as their size -/
def allSP (u : Nat) (l : List ByteArray) : Prop := ∀ s ∈ l, s.size = u
theorem szK_pos {n v : Nat} {K : List ByteArray} (hv : v ≠ 0) : szK n K = v ↔ K ≠ [] ∧ allSP v K ∧ v ≤ 64 ∧ n ≤ 128 := by
  cases K with
  | nil => exact ⟨fun h => absurd (show 0 = v from h).symm hv, fun h => absurd rfl h.1⟩
  | cons a r =>
    have hu : szK n (a :: r) = if (decide (n ≤ 128) && inB a.size 1 64 && sizesAre a.size (a :: r)) = true then a.size else 0 := rfl
    rw [hu]
    constructor
    · intro h
      by_cases hc : (decide (n ≤ 128) && inB a.size 1 64 && sizesAre a.size (a :: r)) = true
      · rw [if_pos hc] at h
        rw [Bool.and_eq_true, Bool.and_eq_true] at hc
        have h1 := of_decide_eq_true hc.1.1
        have h2 := inB_yes hc.1.2
        have h3 := List.all_eq_true.1 hc.2
        exact ⟨by simp, fun s hs => (of_decide_eq_true (h3 s hs)).trans h, by omega, h1⟩
      · rw [if_neg hc] at h; exact absurd h.symm hv
    · rintro ⟨_, h2, h3, h4⟩
      have ha := h2 a List.mem_cons_self
      rw [if_pos]
      · exact ha
      · rw [Bool.and_eq_true, Bool.and_eq_true]
        exact ⟨⟨decide_eq_true h4, inB_t (by omega)⟩, List.all_eq_true.2 fun s hs => decide_eq_true ((h2 s hs).trans ha.symm)⟩
end Go.Proofs.YtddihmpiaemadaaGreatDoor
namespace Go.Proofs.YtddihmpiaemadaaGreatDoor
set_option linter.unusedVariables false
set_option linter.unusedSimpArgs false
open Go.RowKit
def zerL (n : Nat) (L : List Int) (bl : List ByteArray) : List ByteArray := bl.mapIdx fun i b => if hasB L i = true then strN (List.replicate n 0) else b
end Go.Proofs.YtddihmpiaemadaaGreatDoor
namespace Go.Proofs.YtddihmpiaemadaaGreatDoor
set_option linter.unusedVariables false
set_option linter.unusedSimpArgs false
open Go.RowKit
theorem kn_mem {L : List Int} {j k : Nat} {bl : List ByteArray} {b : ByteArray} (h : bl[k]? = some b) (hh : hasB L (j + k) = false) : b ∈ knF L j bl := by
  induction bl generalizing j k with
  | nil => simp at h
  | cons a r ih =>
    unfold knF
    cases k with
    | zero =>
      obtain rfl : a = b := by simpa using h
      rw [if_neg (by rw [show j = j + 0 by omega, hh]; decide)]
      exact List.mem_cons_self
    | succ k =>
      have := ih (j := j + 1) (k := k) (by simpa using h) (by rw [← hh]; congr 1; omega)
      split
      · exact this
      · exact List.mem_cons_of_mem _ this
theorem left_sizes {L : List Int} {bl mo : List ByteArray} {n : Nat} (h : allSP n (ktF bl L mo)) : ∀ s ∈ leftG L bl, s.size = 0 ∨ s.size = n := by
  intro s hs
  obtain ⟨k, hk, he⟩ := List.mem_iff_getElem.1 hs
  rw [left_len] at hk
  have h1 := left_get (L := L) (List.getElem?_eq_getElem hk)
  rw [List.getElem?_eq_getElem (by rw [left_len]; exact hk), he] at h1
  obtain rfl := Option.some.inj h1
  cases hh : hasB L k
  · exact .inr (h _ (List.mem_append_left _ (kn_mem (j := 0) (List.getElem?_eq_getElem hk) (by rw [Nat.zero_add]; exact hh))))
  · exact .inl rfl
def r1K (bl : List ByteArray) (i : Int) (p : ByteArray) : Nat := szK bl.length (ktF bl [i] [p])
def r1X (bl : List ByteArray) (i : Int) (p : ByteArray) : List Nat := xorN (parF (List.replicate (r1K bl i p) 0) (List.replicate (r1K bl i p) 0) 0 (leftG [i] bl)).1 (bts p)
def r1E (bl : List ByteArray) (i : Int) (p : ByteArray) : ByteArray × Int :=
  if inB i 0 ((bl.length : Int) - 1) = false then (.empty, 2) else if r1K bl i p = 0 ∨ p.size = 0 then (.empty, 1) else (strN (r1X bl i p), 0)
def r1V (bl : List ByteArray) (i : Int) (p : ByteArray) : Value := .tuple #[.string (r1E bl i p).1, .int .i64 (r1E bl i p).2]
end Go.Proofs.YtddihmpiaemadaaGreatDoor
namespace Go.Proofs.YtddihmpiaemadaaGreatDoor
set_option linter.unusedVariables false
set_option linter.unusedSimpArgs false
open Go.RowKit
def R2One (w : World) (bl : List ByteArray) (i : Int) (p : ByteArray) (e : Ending) (w' : World) : Prop :=
  ∃ (v' : Value) (c : Int), e = .returned (.tuple #[v', .int .i64 c]) ∧ ((r1K bl i p = 0 ∧ v' = .slice none 0 0 ∧ c = 1) ∨ (r1K bl i p ≠ 0 ∧ c = 0 ∧ StringL w.heap.size w' v' ((zerL (r1K bl i p) [i] bl).set i.toNat (strN (r1X bl i p))))) ∧ Below w.heap.size w w'
end Go.Proofs.YtddihmpiaemadaaGreatDoor
namespace Go.Proofs.YtddihmpiaemadaaGreatDoor
set_option linter.unusedVariables false
set_option linter.unusedSimpArgs false
open Go.RowKit
def rK (bl : List ByteArray) (L : List Int) (p q : ByteArray) : Nat := szK bl.length (ktF bl L [p, q])
def rX (bl : List ByteArray) (L : List Int) (p q : ByteArray) : List Nat := (parF (List.replicate (rK bl L p q) 0) (List.replicate (rK bl L p q) 0) 0 (leftG L bl)).1
def rY (bl : List ByteArray) (L : List Int) (p q : ByteArray) : List Nat := (parF (List.replicate (rK bl L p q) 0) (List.replicate (rK bl L p q) 0) 0 (leftG L bl)).2
def e1 (s : ByteArray) : Nat := if s.size = 0 then 1 else 0
def cntL (L : List Int) (p q : ByteArray) : Nat := L.length + e1 p + e1 q
def fstF (X Y : List Nat) (i j : Int) (p q : ByteArray) : List Nat := scN (invF (gpow (m255 i) ^^^ gpow (m255 j))) (xorN (xorN Y (bts q)) (scN (gpow (m255 j)) (xorN X (bts p))))
def outL (le : List ByteArray) (X Y : List Nat) (p q : ByteArray) : List Int → List ByteArray
  | [i] => le.set i.toNat (if p.size = 0 then strN (scN (invF (gpow (m255 i))) (xorN Y (bts q))) else strN (xorN X (bts p)))
  | [i, j] => (le.set i.toNat (strN (fstF X Y i j p q))).set j.toNat (strN (xorN (xorN X (bts p)) (fstF X Y i j p q)))
  | _ => le
theorem out_len (le : List ByteArray) (X Y : List Nat) (p q : ByteArray) (L : List Int) : (outL le X Y p q L).length = le.length := by
  unfold outL; split <;> simp
def r2E (bl : List ByteArray) (L : List Int) (p q : ByteArray) : List ByteArray × Int :=
  if risesB 0 ((bl.length : Int) - 1) L = false then ([], 2) else if rK bl L p q = 0 ∨ bl.length = 0 then ([], 1) else if 2 < cntL L p q then ([], 10) else (outL (leftG L bl) (rX bl L p q) (rY bl L p q) p q L, 0)
theorem r2_2 {bl : List ByteArray} {L : List Int} {p q : ByteArray} (h : risesB 0 ((bl.length : Int) - 1) L = false) : r2E bl L p q = ([], 2) := by unfold r2E; rw [if_pos h]
theorem r2_1 {bl : List ByteArray} {L : List Int} {p q : ByteArray} (h : risesB 0 ((bl.length : Int) - 1) L = true) (h1 : rK bl L p q = 0 ∨ bl.length = 0) : r2E bl L p q = ([], 1) := by unfold r2E; rw [if_neg (by rw [h]; decide), if_pos h1]
theorem r2_10 {bl : List ByteArray} {L : List Int} {p q : ByteArray} (h : risesB 0 ((bl.length : Int) - 1) L = true) (h1 : ¬ (rK bl L p q = 0 ∨ bl.length = 0)) (h2 : 2 < cntL L p q) : r2E bl L p q = ([], 10) := by unfold r2E; rw [if_neg (by rw [h]; decide), if_neg h1, if_pos h2]
theorem r2_0 {bl : List ByteArray} {L : List Int} {p q : ByteArray} (h : risesB 0 ((bl.length : Int) - 1) L = true) (h1 : ¬ (rK bl L p q = 0 ∨ bl.length = 0)) (h2 : ¬ 2 < cntL L p q) : r2E bl L p q = (outL (leftG L bl) (rX bl L p q) (rY bl L p q) p q L, 0) := by unfold r2E; rw [if_neg (by rw [h]; decide), if_neg h1, if_neg h2]
theorem rises_mem {lo hi : Int} {l : List Int} : ∀ {o : Option Int}, risesF lo hi o l = true → ∀ x ∈ l, lo ≤ x ∧ x ≤ hi := by
  induction l with
  | nil => intro o _ x hx; cases hx
  | cons a r ih =>
    intro o h x hx
    rw [risesF_cons, Bool.and_eq_true, Bool.and_eq_true] at h
    cases List.mem_cons.1 hx with
    | inl h' => subst h'; exact inB_yes h.1.1
    | inr h' => exact ih h.2 x h'
/-- the facts of a group whose lost blocks are to be restored -/
structure Grp (bl : List ByteArray) (L : List Int) (p q : ByteArray) : Prop where
  n1 : rK bl L p q ≠ 0
  n2 : rK bl L p q ≤ 64
  b2 : bl.length ≤ 128
  all : allSP (rK bl L p q) (ktF bl L [p, q])
theorem grp {bl : List ByteArray} {L : List Int} {p q : ByteArray} (h : rK bl L p q ≠ 0) : Grp bl L p q := by
  obtain ⟨_, k2, k3, k4⟩ := (szK_pos h).1 (show szK bl.length (ktF bl L [p, q]) = rK bl L p q from rfl)
  exact ⟨h, k3, k4, k2⟩
theorem Grp.p {bl : List ByteArray} {L : List Int} {p q : ByteArray} (g : Grp bl L p q) (h : p.size ≠ 0) : p.size = rK bl L p q :=
  g.all p (List.mem_append_right _ (by rw [ne_c, if_neg (by rw [emp_noP h]; decide)]; exact List.mem_cons_self))
theorem Grp.q {bl : List ByteArray} {L : List Int} {p q : ByteArray} (g : Grp bl L p q) (h : q.size ≠ 0) : q.size = rK bl L p q := by
  refine g.all q (List.mem_append_right _ ?_)
  have hq : q ∈ neF [q] := by rw [ne_c, if_neg (by rw [emp_noP h]; decide)]; exact List.mem_cons_self
  rw [ne_c]
  split
  · exact hq
  · exact List.mem_cons_of_mem _ hq
theorem Grp.len {bl : List ByteArray} {L : List Int} {p q : ByteArray} (g : Grp bl L p q) : (rX bl L p q).length = rK bl L p q ∧ (rY bl L p q).length = rK bl L p q :=
  parF_len (p := List.replicate (rK bl L p q) 0) (q := List.replicate (rK bl L p q) 0) (k := 0) (l := leftG L bl) List.length_replicate List.length_replicate (left_sizes g.all)
theorem Grp.lt {bl : List ByteArray} {L : List Int} {p q : ByteArray} (_g : Grp bl L p q) : (∀ x ∈ rX bl L p q, x < 256) ∧ (∀ x ∈ rY bl L p q, x < 256) :=
  parF_lt (p := List.replicate (rK bl L p q) 0) (q := List.replicate (rK bl L p q) 0) (k := 0) (l := leftG L bl) zeros_lt zeros_lt
theorem Grp.par {bl : List ByteArray} {L : List Int} {p q : ByteArray} (g : Grp bl L p q) (v : Value) (w : World) (h : StrL w v (leftG L bl)) :
    Calls Tryz.prog 116 #[v, .int .i64 (rK bl L p q)] w fun e w' => e = .returned (.tuple #[.string (strN (rX bl L p q)), .string (strN (rY bl L p q))]) ∧ Below w.heap.size w w' :=
  parity_i (leftG L bl) (rK bl L p q) v w h (by rw [left_len]; have := g.b2; omega) (left_sizes g.all) (by have := g.n2; omega)
theorem xor_lt256 {a b : Nat} (ha : a < 256) (hb : b < 256) : a ^^^ b < 256 := Nat.xor_lt_two_pow (n := 8) ha hb
/-- xorBytes of a string made of numbers -/
theorem xorN_i (a : List Nat) (b : ByteArray) (w : World) (ha : ∀ x ∈ a, x < 256) (hs : a.length ≤ b.size) (hb : b.size ≤ 2097152) :
    Calls Tryz.prog 117 #[.string (strN a), .string b] w fun e w' => e = .returned (.string (strN (xorN a (bts b)))) ∧ Below w.heap.size w w' := by
  have := xor_i (strN a) b w (by rw [strN_size]; exact hs) hb
  rw [bts_strN ha] at this
  exact this
theorem xorNN_i (a b : List Nat) (w : World) (ha : ∀ x ∈ a, x < 256) (hb : ∀ x ∈ b, x < 256) (hs : a.length ≤ b.length) (hl : b.length ≤ 2097152) :
    Calls Tryz.prog 117 #[.string (strN a), .string (strN b)] w fun e w' => e = .returned (.string (strN (xorN a b))) ∧ Below w.heap.size w w' := by
  have := xorN_i a (strN b) w ha (by rw [strN_size]; exact hs) (by rw [strN_size]; exact hl)
  rw [bts_strN hb] at this
  exact this
theorem unscN_i (s : List Nat) (a : Nat) (w : World) (hs : ∀ x ∈ s, x < 256) (hl : s.length ≤ 2097152) (ha : a < 256) :
    Calls Tryz.prog 118 #[.string (strN s), .int .i64 a] w fun e w' => e = .returned (.string (strN (scN (invF a) s))) ∧ Below w.heap.size w w' := by
  have := unscaled_i (strN s) a w (by rw [strN_size]; exact hl) ha
  rw [bts_strN hs] at this
  exact this
theorem scaN_i (s : List Nat) (x : Int) (w : World) (hs : ∀ x ∈ s, x < 256) (hl : s.length ≤ 2097152) (hx : -9223372036854775808 ≤ x ∧ x ≤ 9223372036854775807) :
    Calls Tryz.prog 120 #[.string (strN s), .int .i64 x] w fun e w' => e = .returned (.string (strN (scN (gpow (m255 x)) s))) ∧ Below w.heap.size w w' := by
  have := scaled_i (strN s) x w (by rw [strN_size]; exact hl) hx
  rw [bts_strN hs] at this
  exact this
theorem e1_yes {s : ByteArray} (h : s.toList.isEmpty = true) : e1 s = 1 := by unfold e1; rw [if_pos (emp_iff.1 h)]
theorem e1_no {s : ByteArray} (h : s.toList.isEmpty = false) : e1 s = 0 := by unfold e1; rw [if_neg (fun h0 => by rw [emp_yesP h0] at h; cases h)]
end Go.Proofs.YtddihmpiaemadaaGreatDoor
