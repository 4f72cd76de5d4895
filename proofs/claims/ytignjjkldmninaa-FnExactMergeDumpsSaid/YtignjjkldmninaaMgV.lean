/- The bytes that most of some strings have: the walks. -/
import Derived.Test.YtignjjkldmninaaMgW
import Derived.Deep.WholeRow
namespace Go.Proofs.Ytignjjkldmninaa
set_option linter.unusedVariables false
open Go.RowKit
/-- an array of 256 counts -/
def cArr (f : Nat → Nat) : Array Value := Array.ofFn (n := 256) fun b => .int .i64 (f b.val : Nat)
theorem cArr_size (f : Nat → Nat) : (cArr f).size = 256 := by simp [cArr]
theorem cArr_get (f : Nat → Nat) {b : Nat} (h : b < 256) : (cArr f)[b]? = some (.int .i64 (f b : Nat)) := by simp [cArr, h]
theorem cArr_set (f f' : Nat → Nat) {x : Nat} (hx : x < 256) (h : ∀ b, b < 256 → f' b = if b = x then f x + 1 else f b) : (cArr f).setIfInBounds x (.int .i64 ((f x + 1 : Nat) : Int)) = cArr f' := by
  apply Array.ext_getElem?
  intro i
  rw [Array.getElem?_setIfInBounds]
  by_cases hi : i < 256
  · rw [cArr_get f' hi, h i hi]
    by_cases e : x = i
    · subst e; simp [cArr_size, hi]
    · rw [if_neg e, cArr_get f hi, if_neg (Ne.symm e)]
  · rw [if_neg (by rintro rfl; exact hi hx), Array.getElem?_eq_none (by rw [cArr_size]; omega), Array.getElem?_eq_none (by rw [cArr_size]; omega)]
theorem cArr_zero : Array.replicate 256 (Value.int .i64 0) = cArr (fun _ => 0) := by
  apply Array.ext_getElem?
  intro i
  by_cases hi : i < 256
  · rw [cArr_get _ hi]; simp [hi]
  · rw [Array.getElem?_eq_none (by simp; omega), Array.getElem?_eq_none (by rw [cArr_size]; omega)]
theorem arr_info : (Try.prog.info? 135).map (fun i => (i.zero, i.size)) = some (some (.agg (Array.replicate 256 (.int .i64 0))), 256) := by kernel_rfl
theorem cntBk_le (D : List ByteArray) (i k b : Nat) : cntBk D i k b ≤ k := by
  unfold cntBk cntB
  exact Nat.le_trans List.countP_le_length (by simp; omega)
theorem cnt_next {D : List ByteArray} {i k : Nat} {s : ByteArray} (hs : D[k]? = some s) (hi : i < s.size) : ∀ b, b < 256 → cntBk D i (k + 1) b = if b = s[i].toNat then cntBk D i k s[i].toNat + 1 else cntBk D i k b := by
  intro b hb
  obtain ⟨hk, rfl⟩ := List.getElem?_eq_some_iff.1 hs
  have hd : D[k].data.toList.getD i 0 = D[k][i] := by
    rw [List.getD_eq_getElem?_getD, List.getElem?_eq_getElem (by simpa using hi)]; rfl
  have e : ∀ c, cntBk D i (k + 1) c = cntBk D i k c + if (D[k][i] == UInt8.ofNat c) = true then 1 else 0 := fun c => by
    unfold cntBk cntB
    rw [List.take_succ_eq_append_getElem hk, List.countP_append, List.countP_singleton, hd]
  rw [e b]
  by_cases hbe : b = D[k][i].toNat
  · subst hbe
    rw [if_pos rfl, if_pos (by simp)]
  · rw [if_neg hbe, if_neg, Nat.add_zero]
    intro h
    have h2 : D[k][i] = UInt8.ofNat b := by simpa using h
    apply hbe; rw [h2, UInt8.toNat_ofNat']; omega
set_option maxRecDepth 20000 in
set_option maxHeartbeats 1000000 in
theorem vote_i (B : Nat) (D : List ByteArray) (v : Value) (w : World) (h : StringL B w v D) (hn : D.length ≤ 1048576) (h0 : D ≠ []) (n : Nat) (hs : ∀ s ∈ D, s.size = n) (hn2 : n ≤ 1048576) :
    Calls Try.prog 114 #[v] w fun e w' => e = .returned (.string (strN (voteV D))) ∧ Below w.heap.size w w' := by
  obtain ⟨A, c, rfl, hA⟩ := OwnL.shape h
  obtain ⟨g, rfl, _, hg⟩ := hA.resolve_left h0
  have HC := Lib.hid (fun k s (hk : D[k]? = some s) => StringL.at_ h rfl hk)
  have hl : 0 < D.length := List.length_pos_iff.2 h0
  obtain ⟨s0, hs0⟩ : ∃ s, D[0]? = some s := ⟨D[0], List.getElem?_eq_getElem hl⟩
  have p0 := HC.out 0 s0 hs0
  have hs00 : s0.size = n := hs s0 (List.mem_of_getElem? hs0)
  obtain ⟨hz, hsz⟩ := zero_of_info arr_info
  rw [cArr_zero] at hz
  obtain ⟨wb, hmk, hbuf, hbb, hzb⟩ := buf_made w n (by omega)
  have HS := Lib.hid hs
  have HS0 := Lib.hid hs0
  subst hs00
  clear hA h h0 hs0 hs
  go_enter Try.func114, Try.ntmps114
  go_wp2_with (fail)
  go_loopw [18] (fun i wr => ∃ (k : Nat) (bl : List Nat), k ≤ s0.size ∧ i = .int .i64 k ∧ Below w.heap.size w wr ∧ w.heap.size < wr.heap.size ∧ Hid (bl.length = s0.size) ∧ Hid (Buf wr w.heap.size bl) ∧ Hid (∀ j, j < k → bl[j]? = some (byteV D j))) (fun i _ => s0.size - (intOf i).toNat)
  case atStart => exact ⟨0, _, by omega, rfl, hbb, by omega, Lib.hid (by simp), Lib.hid hbuf, Lib.hid fun j hj => by omega⟩
  case round =>
    clear hbuf hbb hzb hmk
    obtain ⟨i, bl, hi, rfl, hb, hzr, HL, HB, HV⟩ := hrel
    have zr := hb.size
    by_cases hlt : i < s0.size
    · generalize hwo : wr = wo at *; clear hwo
      have hA0 : ((wo.alloc (.cells (cArr fun _ => 0) 135)).heap[wo.heap.size]? = some (.cells (cArr (cntBk D i 0)) 135 (0, 0))) := by
        rw [heap_alloc_last]; congr 3
      have hB0 : Below wo.heap.size wo (wo.alloc (.cells (cArr fun _ => 0) 135)) := Below.alloc (Below.refl _ _) (Nat.le_refl _) _
      have HA0 := Lib.hid hA0
      clear hA0
      go_wp2_with (fail)
      go_loopw [23] (fun j wx => ∃ k : Nat, k ≤ D.length ∧ j = .int .i64 k ∧ Below wo.heap.size wo wx ∧ Hid (wx.heap[wo.heap.size]? = some (.cells (cArr (cntBk D i k)) 135 (0, 0)))) (fun j _ => D.length - (intOf j).toNat)
      case atStart => exact ⟨0, by omega, rfl, hB0, HA0⟩
      case round =>
        clear HA0 hB0
        obtain ⟨k, hk, rfl, hbx, HX⟩ := hrel
        have zx := hbx.size
        by_cases hltk : k < D.length
        · obtain ⟨s, hs⟩ : ∃ s, D[k]? = some s := ⟨D[k], List.getElem?_eq_getElem hltk⟩
          have q0 := (hbx.cell (p := ⟨g, k, none⟩) (Nat.lt_of_lt_of_le hg zr)).trans ((hb.cell (p := ⟨g, k, none⟩) hg).trans (HC.out k s hs))
          have hsz1 := HS.out s (List.mem_of_getElem? hs)
          have his : i < s.size := by omega
          have hx256 : s[i].toNat < 256 := s[i].toNat_lt
          have HXN := Lib.hid (cnt_next (i := i) hs his)
          have q1 : wr.cell? ⟨wo.heap.size, s[i].toNat, none⟩ = some (.int .i64 (cntBk D i k s[i].toNat : Nat)) := (cell_of_row wr _ _ _ _ _ HX.out).trans (cArr_get _ hx256)
          have q2 := frozen_of_row wr wo.heap.size s[i].toNat _ _ HX.out
          have hcb : cntBk D i k s[i].toNat ≤ 1048576 := Nat.le_trans (cntBk_le _ _ _ _) (by omega)
          clear hs hsz1
          go_wp2_with (fail)
          go_roundw
          case rel => exact ⟨k + 1, by omega, by go_num, Below.setCell hbx (p := ⟨wo.heap.size, s[i].toNat, none⟩) (Nat.le_refl _) _, Lib.hid (by rw [← cArr_set _ _ hx256 HXN.out]; exact heap_setCell_same _ _ _ _ _ _ HX.out)⟩
          case measure => simp [intOf]; omega
        · obtain rfl : k = D.length := by omega
          have HXE : Hid (wr.heap[wo.heap.size]? = some (.cells (cArr (cntB D i)) 135 (0, 0))) := Lib.hid (by have := HX.out; unfold cntBk at this; rw [List.take_length] at this; exact this)
          have hQ : ∀ b, b < 256 → wr.cell? ⟨wo.heap.size, b, none⟩ = some (.int .i64 (cntB D i b : Nat)) := fun b hb => (cell_of_row wr _ _ _ _ _ HXE.out).trans (cArr_get _ hb)
          have HQ := Lib.hid hQ
          have hIX : ∀ (b : Nat) (W : World), b < 256 → (Instr.index 135 (.agg (cArr (cntB D i))) (.int .i64 (b : Int))).run Try.prog W = .ok (.int .i64 (cntB D i b : Nat)) W := fun b W hb => by
            have hu : Try.prog.underlying 135 = some (.array 256 3) := Try.underlying135
            have hg := cArr_get (cntB D i) hb
            have h1 : (0 : Int) ≤ (b : Int) := by omega
            have h2 : (b : Int) < 256 := by omega
            have hag : ∀ W, (isAgg 3).run Try.prog W = .ok false W := fun W => by kernel_rfl
            simp [Instr.index, hu, go_sem, asIntOf, h1, h2, part, hag, hg]
            intro h; omega
          have HIX := Lib.hid hIX
          have HCL := Lib.hid (fun b => cntBk_le D i D.length b)
          clear HX hQ hIX
          go_wp2_with (first | (refine wpList_load_row rfl 135 _ rfl wo.heap.size rfl 135 (cArr (cntB D i)) (0, 0) _ HXE.out Try.underlying135 rfl (by rw [cArr_size]; exact hsz) ?_))
          go_loop [36, 8] (fun j y => ∃ b : Nat, b ≤ 256 ∧ j = .int .i64 b ∧ ∃ x : Nat, y = .int .i64 x ∧ x < 256 ∧ Hid (x = voteK (cntB D i) b)) (fun j _ => 256 - (intOf j).toNat)
          case atStart => exact ⟨0, by omega, rfl, 0, rfl, by omega, Lib.hid rfl⟩
          case round =>
            obtain ⟨b, hb256, rfl, x, rfl, hx, HX⟩ := hrel
            have q1 := HQ.out x hx
            have q3 := frozen_of_row wr wo.heap.size x _ _ HXE.out
            have hcx : cntB D i x ≤ 1048576 := by have := HCL.out x; unfold cntBk at this; rw [List.take_length] at this; omega
            by_cases hlb : b < 256
            · have hix := fun W => HIX.out b W hlb
              have hcb : cntB D i b ≤ 1048576 := by have := HCL.out b; unfold cntBk at this; rw [List.take_length] at this; omega
              by_cases hc : cntB D i x < cntB D i b
              · have HN : Hid (b = voteK (cntB D i) (b + 1)) := Lib.hid (by rw [voteK, ← HX.out, if_pos hc])
                generalize cntB D i x = cx at *
                generalize cntB D i b = cb at *
                have d1 : decide ((cx : Int) < (cb : Int)) = true := decide_eq_true (by omega)
                have d2 : decide (cx < cb) = true := decide_eq_true hc
                clear HX HQ HIX HXE hc
                go_wp2
                go_round
                case rel => exact ⟨b + 1, by omega, by go_num, b, rfl, hlb, HN⟩
                case measure => simp [intOf]; omega
              · have HN : Hid (x = voteK (cntB D i) (b + 1)) := Lib.hid (by rw [voteK, ← HX.out, if_neg hc])
                generalize cntB D i x = cx at *
                generalize cntB D i b = cb at *
                have d1 : decide ((cx : Int) < (cb : Int)) = false := decide_eq_false (by omega)
                have d2 : decide (cx < cb) = false := decide_eq_false hc
                clear HX HQ HIX HXE hc
                go_wp2
                go_round
                case rel => exact ⟨b + 1, by omega, by go_num, x, rfl, hx, HN⟩
                case measure => simp [intOf]; omega
            · obtain rfl : b = 256 := by omega
              have HXV : Hid (byteV D i = x) := Lib.hid HX.out.symm
              obtain ⟨y, hy⟩ : ∃ y, bl[i]? = some y := ⟨bl[i]'(by rw [HL.out]; omega), List.getElem?_eq_getElem _⟩
              have hB2 := Buf.below HB.out hbx hzr
              have r0 := (hB2 i y hy).1
              have r1 := (hB2 i y hy).2
              have HB3 := Lib.hid (hB2.set x hy)
              have hbl := HL.out
              have hxm : ((x : Int) % 256) = x := by omega
              clear hy hB2 HX HQ HIX HXE
              go_wp2
              go_roundw
              case rel => exact ⟨i + 1, bl.set i x, by omega, by go_num, Below.setCell (hb.trans (hbx.mono zr)) (p := ⟨w.heap.size, i, none⟩) (Nat.le_refl _) _, by simp; omega, Lib.hid (by rw [List.length_set]; exact HL.out), HB3, Lib.hid fun j hj => by
                by_cases e : j = i
                · subst e; rw [List.getElem?_set_self (by omega), HXV.out]
                · rw [List.getElem?_set_ne (Ne.symm e)]; exact HV.out j (by omega)⟩
              case measure => simp [intOf]; omega
    · obtain rfl : i = s0.size := by omega
      have HVV : Hid (bl = voteV D) := Lib.hid (by
        refine List.ext_getElem? fun j => ?_
        unfold voteV
        rw [List.getD_eq_getElem?_getD, HS0.out, Option.getD_some, List.getElem?_map]
        by_cases hj : j < s0.size
        · rw [HV.out j hj, List.getElem?_range hj]; rfl
        · rw [List.getElem?_eq_none (by rw [HL.out]; omega), List.getElem?_eq_none (by simp; omega)]; rfl)
      have hst := Buf.str (n := s0.size) (c := s0.size) HB.out HL.out
      rw [HVV.out] at hst
      clear HB HV HL
      go_wp2_with (fail)
      go_ret
      exact ⟨rfl, hb⟩
end Go.Proofs.Ytignjjkldmninaa
