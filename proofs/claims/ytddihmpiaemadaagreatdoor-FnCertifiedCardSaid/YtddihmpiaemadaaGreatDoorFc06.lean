/- The bytes that most of some strings have: the walk of the implementation. Votes: the plain law (a byte that more than half of the strings have is the most frequent one). crc16, impl and spec: the walks; both compute crcL. The check value is linear: plain laws. flipped, crcEffect, l25Flip, l25Effect: the walks. -/
import Derived.Test.YtddihmpiaemadaaGreatDoorFc02
import Derived.Test.YtddihmpiaemadaaGreatDoorFc01
import Derived.Test.YtddihmpiaemadaaGreatDoorFc04
import Derived.Deep.WholeRow
namespace Go.Proofs.YtddihmpiaemadaaGreatDoor
set_option linter.unusedVariables false
set_option linter.unusedSimpArgs false
open Go.RowKit
/-- the byte that most have, of several the lowest, below b -/
def voteK (c : Nat → Nat) : Nat → Nat
  | 0 => 0
  | b + 1 => if c (voteK c b) < c b then b else voteK c b
theorem voteK_lt (c : Nat → Nat) : ∀ b, voteK c b ≤ b - 1
  | 0 => Nat.le_refl _
  | b + 1 => by
    have := voteK_lt c b
    unfold voteK; split <;> omega
/-- how many strings have byte b at place i -/
def cntBV (l : List ByteArray) (i b : Nat) : Nat := l.countP fun s => s.data.toList.getD i 0 == UInt8.ofNat b
def cntBk (l : List ByteArray) (i k b : Nat) : Nat := cntBV (l.take k) i b
def byteV (l : List ByteArray) (i : Nat) : Nat := voteK (cntBV l i) 256
def voteV (l : List ByteArray) : List Nat := (List.range (l.getD 0 .empty).size).map (byteV l)
theorem byteV_lt (l : List ByteArray) (i : Nat) : byteV l i < 256 := by
  have := voteK_lt (cntBV l i) 256; unfold byteV; omega
/-- an array of 256 counts -/
def cArr (f : Nat → Nat) : Array Value := Array.ofFn (n := 256) fun b => .int .i64 (f b.val : Nat)
theorem cArr_size (f : Nat → Nat) : (cArr f).size = 256 := by simp [cArr]
theorem cArr_get (f : Nat → Nat) {b : Nat} (h : b < 256) : (cArr f)[b]? = some (.int .i64 (f b : Nat)) := by simp [cArr, h]
theorem cArr_set (f f' : Nat → Nat) {x : Nat} (hx : x < 256) (h : ∀ b, b < 256 → f' b = if b = x then f x + 1 else f b) : (cArr f).setIfInBounds x (.int .i64 ((f x + 1 : Nat) : Int)) = cArr f' := by
  apply Array.ext_getElem?
  intro i
  rw [Array.getElem?_setIfInBounds]
  by_cases hi : i < 256
  · rw [cArr_get f' hi, h i hi]
    by_cases e : x = i
    · subst e; simp [cArr_size, hi]
    · rw [if_neg e, cArr_get f hi, if_neg (Ne.symm e)]
  · rw [if_neg (by rintro rfl; exact hi hx), Array.getElem?_eq_none (by rw [cArr_size]; omega), Array.getElem?_eq_none (by rw [cArr_size]; omega)]
theorem cArr_zero : Array.replicate 256 (Value.int .i64 0) = cArr (fun _ => 0) := by
  apply Array.ext_getElem?
  intro i
  by_cases hi : i < 256
  · rw [cArr_get _ hi]; simp [hi]
  · rw [Array.getElem?_eq_none (by simp; omega), Array.getElem?_eq_none (by rw [cArr_size]; omega)]
theorem arr_info : (Tryz.prog.info? 163).map (fun i => (i.zero, i.size)) = some (some (.agg (Array.replicate 256 (.int .i64 0))), 256) := by kernel_rfl
theorem cntBk_le (D : List ByteArray) (i k b : Nat) : cntBk D i k b ≤ k := by
  unfold cntBk cntBV
  exact Nat.le_trans List.countP_le_length (by simp; omega)
theorem cnt_next {D : List ByteArray} {i k : Nat} {s : ByteArray} (hs : D[k]? = some s) (hi : i < s.size) : ∀ b, b < 256 → cntBk D i (k + 1) b = if b = s[i].toNat then cntBk D i k s[i].toNat + 1 else cntBk D i k b := by
  intro b hb
  obtain ⟨hk, rfl⟩ := List.getElem?_eq_some_iff.1 hs
  have hd : D[k].data.toList.getD i 0 = D[k][i] := by
    rw [List.getD_eq_getElem?_getD, List.getElem?_eq_getElem (by simpa using hi)]; rfl
  have e : ∀ c, cntBk D i (k + 1) c = cntBk D i k c + if (D[k][i] == UInt8.ofNat c) = true then 1 else 0 := fun c => by
    unfold cntBk cntBV
    rw [List.take_succ_eq_append_getElem hk, List.countP_append, List.countP_singleton, hd]
  rw [e b]
  by_cases hbe : b = D[k][i].toNat
  · subst hbe
    rw [if_pos rfl, if_pos (by simp)]
  · rw [if_neg hbe, if_neg, Nat.add_zero]
    intro h
    have h2 : D[k][i] = UInt8.ofNat b := by simpa using h
    apply hbe; rw [h2, UInt8.toNat_ofNat']; omega
set_option maxRecDepth 20000 in
set_option maxHeartbeats 1000000 in
theorem vote_i (B : Nat) (D : List ByteArray) (v : Value) (w : World) (h : StringL B w v D) (hn : D.length ≤ 1048576) (h0 : D ≠ []) (n : Nat) (hs : ∀ s ∈ D, s.size = n) (hn2 : n ≤ 1048576) :
    Calls Tryz.prog 86 #[v] w fun e w' => e = .returned (.string (strN (voteV D))) ∧ Below w.heap.size w w' := by
  obtain ⟨A, c, rfl, hA⟩ := OwnL.shape h
  obtain ⟨g, rfl, _, hg⟩ := hA.resolve_left h0
  have HC := Lib.hid (fun k s (hk : D[k]? = some s) => StringL.at_ h rfl hk)
  have hl : 0 < D.length := List.length_pos_iff.2 h0
  obtain ⟨s0, hs0⟩ : ∃ s, D[0]? = some s := ⟨D[0], List.getElem?_eq_getElem hl⟩
  have p0 := HC.out 0 s0 hs0
  have hs00 : s0.size = n := hs s0 (List.mem_of_getElem? hs0)
  obtain ⟨hz, hsz⟩ := zero_of_info arr_info
  rw [cArr_zero] at hz
  obtain ⟨wb, hmk, hbuf, hbb, hzb⟩ := buf_made w n (by omega)
  have HS := Lib.hid hs
  have HS0 := Lib.hid hs0
  subst hs00
  clear hA h h0 hs0 hs
  go_enter Tryz.func86, Tryz.ntmps86
  go_wp2_with (fail)
  go_loopw [18] (fun i wr => ∃ (k : Nat) (bl : List Nat), k ≤ s0.size ∧ i = .int .i64 k ∧ Below w.heap.size w wr ∧ w.heap.size < wr.heap.size ∧ Hid (bl.length = s0.size) ∧ Hid (Buf wr w.heap.size bl) ∧ Hid (∀ j, j < k → bl[j]? = some (byteV D j))) (fun i _ => s0.size - (intOf i).toNat)
  case atStart => exact ⟨0, _, by omega, rfl, hbb, by omega, Lib.hid (by simp), Lib.hid hbuf, Lib.hid fun j hj => by omega⟩
  case round =>
    clear hbuf hbb hzb hmk
    obtain ⟨i, bl, hi, rfl, hb, hzr, HL, HB, HV⟩ := hrel
    have zr := hb.size
    by_cases hlt : i < s0.size
    · generalize hwo : wr = wo at *; clear hwo
      have hA0 : ((wo.alloc (.cells (cArr fun _ => 0) 163)).heap[wo.heap.size]? = some (.cells (cArr (cntBk D i 0)) 163 (0, 0))) := by
        rw [heap_alloc_last]; congr 3
      have hB0 : Below wo.heap.size wo (wo.alloc (.cells (cArr fun _ => 0) 163)) := Below.alloc (Below.refl _ _) (Nat.le_refl _) _
      have HA0 := Lib.hid hA0
      clear hA0
      go_wp2_with (fail)
      go_loopw [23] (fun j wx => ∃ k : Nat, k ≤ D.length ∧ j = .int .i64 k ∧ Below wo.heap.size wo wx ∧ Hid (wx.heap[wo.heap.size]? = some (.cells (cArr (cntBk D i k)) 163 (0, 0)))) (fun j _ => D.length - (intOf j).toNat)
      case atStart => exact ⟨0, by omega, rfl, hB0, HA0⟩
      case round =>
        clear HA0 hB0
        obtain ⟨k, hk, rfl, hbx, HX⟩ := hrel
        have zx := hbx.size
        by_cases hltk : k < D.length
        · obtain ⟨s, hs⟩ : ∃ s, D[k]? = some s := ⟨D[k], List.getElem?_eq_getElem hltk⟩
          have q0 := (hbx.cell (p := ⟨g, k, none⟩) (Nat.lt_of_lt_of_le hg zr)).trans ((hb.cell (p := ⟨g, k, none⟩) hg).trans (HC.out k s hs))
          have hsz1 := HS.out s (List.mem_of_getElem? hs)
          have his : i < s.size := by omega
          have hx256 : s[i].toNat < 256 := s[i].toNat_lt
          have HXN := Lib.hid (cnt_next (i := i) hs his)
          have q1 : wr.cell? ⟨wo.heap.size, s[i].toNat, none⟩ = some (.int .i64 (cntBk D i k s[i].toNat : Nat)) := (cell_of_row wr _ _ _ _ _ HX.out).trans (cArr_get _ hx256)
          have q2 := frozen_of_row wr wo.heap.size s[i].toNat _ _ HX.out
          have hcb : cntBk D i k s[i].toNat ≤ 1048576 := Nat.le_trans (cntBk_le _ _ _ _) (by omega)
          clear hs hsz1
          go_wp2_with (fail)
          go_roundw
          case rel => exact ⟨k + 1, by omega, by go_num, Below.setCell hbx (p := ⟨wo.heap.size, s[i].toNat, none⟩) (Nat.le_refl _) _, Lib.hid (by rw [← cArr_set _ _ hx256 HXN.out]; exact heap_setCell_same _ _ _ _ _ _ HX.out)⟩
          case measure => simp [intOf]; omega
        · obtain rfl : k = D.length := by omega
          have HXE : Hid (wr.heap[wo.heap.size]? = some (.cells (cArr (cntBV D i)) 163 (0, 0))) := Lib.hid (by have := HX.out; unfold cntBk at this; rw [List.take_length] at this; exact this)
          have hQ : ∀ b, b < 256 → wr.cell? ⟨wo.heap.size, b, none⟩ = some (.int .i64 (cntBV D i b : Nat)) := fun b hb => (cell_of_row wr _ _ _ _ _ HXE.out).trans (cArr_get _ hb)
          have HQ := Lib.hid hQ
          have hIX : ∀ (b : Nat) (W : World), b < 256 → (Instr.index 163 (.agg (cArr (cntBV D i))) (.int .i64 (b : Int))).run Tryz.prog W = .ok (.int .i64 (cntBV D i b : Nat)) W := fun b W hb => by
            have hu : Tryz.prog.underlying 163 = some (.array 256 3) := Tryz.underlying163
            have hg := cArr_get (cntBV D i) hb
            have h1 : (0 : Int) ≤ (b : Int) := by omega
            have h2 : (b : Int) < 256 := by omega
            have hag : ∀ W, (isAgg 3).run Tryz.prog W = .ok false W := fun W => by kernel_rfl
            simp [Instr.index, hu, go_sem, asIntOf, h1, h2, part, hag, hg]
            intro h; omega
          have HIX := Lib.hid hIX
          have HCL := Lib.hid (fun b => cntBk_le D i D.length b)
          clear HX hQ hIX
          go_wp2_with (first | (refine wpList_load_row rfl 163 _ rfl wo.heap.size rfl 163 (cArr (cntBV D i)) (0, 0) _ HXE.out Tryz.underlying163 rfl (by rw [cArr_size]; exact hsz) ?_))
          go_loop [36, 8] (fun j y => ∃ b : Nat, b ≤ 256 ∧ j = .int .i64 b ∧ ∃ x : Nat, y = .int .i64 x ∧ x < 256 ∧ Hid (x = voteK (cntBV D i) b)) (fun j _ => 256 - (intOf j).toNat)
          case atStart => exact ⟨0, by omega, rfl, 0, rfl, by omega, Lib.hid rfl⟩
          case round =>
            obtain ⟨b, hb256, rfl, x, rfl, hx, HX⟩ := hrel
            have q1 := HQ.out x hx
            have q3 := frozen_of_row wr wo.heap.size x _ _ HXE.out
            have hcx : cntBV D i x ≤ 1048576 := by have := HCL.out x; unfold cntBk at this; rw [List.take_length] at this; omega
            by_cases hlb : b < 256
            · have hix := fun W => HIX.out b W hlb
              have hcb : cntBV D i b ≤ 1048576 := by have := HCL.out b; unfold cntBk at this; rw [List.take_length] at this; omega
              by_cases hc : cntBV D i x < cntBV D i b
              · have HN : Hid (b = voteK (cntBV D i) (b + 1)) := Lib.hid (by rw [voteK, ← HX.out, if_pos hc])
                generalize cntBV D i x = cx at *
                generalize cntBV D i b = cb at *
                have d1 : decide ((cx : Int) < (cb : Int)) = true := decide_eq_true (by omega)
                have d2 : decide (cx < cb) = true := decide_eq_true hc
                clear HX HQ HIX HXE hc
                go_wp2
                go_round
                case rel => exact ⟨b + 1, by omega, by go_num, b, rfl, hlb, HN⟩
                case measure => simp [intOf]; omega
              · have HN : Hid (x = voteK (cntBV D i) (b + 1)) := Lib.hid (by rw [voteK, ← HX.out, if_neg hc])
                generalize cntBV D i x = cx at *
                generalize cntBV D i b = cb at *
                have d1 : decide ((cx : Int) < (cb : Int)) = false := decide_eq_false (by omega)
                have d2 : decide (cx < cb) = false := decide_eq_false hc
                clear HX HQ HIX HXE hc
                go_wp2
                go_round
                case rel => exact ⟨b + 1, by omega, by go_num, x, rfl, hx, HN⟩
                case measure => simp [intOf]; omega
            · obtain rfl : b = 256 := by omega
              have HXV : Hid (byteV D i = x) := Lib.hid HX.out.symm
              obtain ⟨y, hy⟩ : ∃ y, bl[i]? = some y := ⟨bl[i]'(by rw [HL.out]; omega), List.getElem?_eq_getElem _⟩
              have hB2 := Buf.below HB.out hbx hzr
              have r0 := (hB2 i y hy).1
              have r1 := (hB2 i y hy).2
              have HB3 := Lib.hid (hB2.set x hy)
              have hbl := HL.out
              have hxm : ((x : Int) % 256) = x := by omega
              clear hy hB2 HX HQ HIX HXE
              go_wp2
              go_roundw
              case rel => exact ⟨i + 1, bl.set i x, by omega, by go_num, Below.setCell (hb.trans (hbx.mono zr)) (p := ⟨w.heap.size, i, none⟩) (Nat.le_refl _) _, by simp; omega, Lib.hid (by rw [List.length_set]; exact HL.out), HB3, Lib.hid fun j hj => by
                by_cases e : j = i
                · subst e; rw [List.getElem?_set_self (by omega), HXV.out]
                · rw [List.getElem?_set_ne (Ne.symm e)]; exact HV.out j (by omega)⟩
              case measure => simp [intOf]; omega
    · obtain rfl : i = s0.size := by omega
      have HVV : Hid (bl = voteV D) := Lib.hid (by
        refine List.ext_getElem? fun j => ?_
        unfold voteV
        rw [List.getD_eq_getElem?_getD, HS0.out, Option.getD_some, List.getElem?_map]
        by_cases hj : j < s0.size
        · rw [HV.out j hj, List.getElem?_range hj]; rfl
        · rw [List.getElem?_eq_none (by rw [HL.out]; omega), List.getElem?_eq_none (by simp; omega)]; rfl)
      have hst := Buf.str (n := s0.size) (c := s0.size) HB.out HL.out
      rw [HVV.out] at hst
      clear HB HV HL
      go_wp2_with (fail)
      go_ret
      exact ⟨rfl, hb⟩
end Go.Proofs.YtddihmpiaemadaaGreatDoor
namespace Go.Proofs.YtddihmpiaemadaaGreatDoor
set_option linter.unusedVariables false
set_option linter.unusedSimpArgs false
/-- more than half of the strings have the most frequent byte at a place -/
def majB (D : List ByteArray) (i : Nat) : Bool := decide (D.length < 2 * cntBV D i (byteV D i))
def voteN (D : List ByteArray) : Nat := (D.getD 0 .empty).size
def voteOk (D : List ByteArray) : Bool := decide (2 ≤ D.length) && (List.range (voteN D)).all (majB D)
def voteE (D : List ByteArray) : ByteArray × Bool := if voteOk D then (strN (voteV D), true) else (.empty, false)
theorem vo_short {D : List ByteArray} (h : D.length < 2) : voteE D = (.empty, false) := by
  unfold voteE voteOk; rw [decide_eq_false (by omega), Bool.false_and]; rfl
theorem vo_no {D : List ByteArray} {i : Nat} (hi : i < voteN D) (h : majB D i = false) : voteE D = (.empty, false) := by
  unfold voteE voteOk
  have : (List.range (voteN D)).all (majB D) = false := by
    rw [← Bool.not_eq_true, List.all_eq_true]
    intro hh
    have := hh i (List.mem_range.2 hi)
    rw [h] at this; cases this
  rw [this, Bool.and_false]; rfl
theorem vo_yes {D : List ByteArray} (h2 : 2 ≤ D.length) (h : ∀ i, i < voteN D → majB D i = true) : voteE D = (strN (voteV D), true) := by
  unfold voteE voteOk
  have : (List.range (voteN D)).all (majB D) = true := List.all_eq_true.2 fun i hi => h i (List.mem_range.1 hi)
  rw [this, decide_eq_true h2]; rfl
end Go.Proofs.YtddihmpiaemadaaGreatDoor
namespace Go.Proofs.YtddihmpiaemadaaGreatDoor
set_option linter.unusedVariables false
set_option linter.unusedSimpArgs false
open Go.RowKit

def crcBit (v : Nat) (b : Bool) : Nat := if (decide (32768 ≤ v)) != b then (v * 2 % 65536) ^^^ 4129 else v * 2 % 65536
def crcK (v : Nat) (c : UInt8) : Nat → Nat
  | 0 => v
  | j + 1 => crcBit (crcK v c j) (c.toNat.testBit (7 - j))
def crcL (l : List UInt8) (v : Nat) : Nat := l.foldl (fun v c => crcK v c 8) v

theorem crcBit_lt (v : Nat) (b : Bool) : crcBit v b < 65536 := by
  unfold crcBit
  split
  · exact Nat.xor_lt_two_pow (n := 16) (by omega) (by omega)
  · omega
theorem crcK_lt (v : Nat) (c : UInt8) (j : Nat) (h : v < 65536) : crcK v c j < 65536 := by
  cases j with
  | zero => exact h
  | succ j => exact crcBit_lt _ _
theorem crcL_lt (l : List UInt8) (v : Nat) (h : v < 65536) : crcL l v < 65536 := by
  unfold crcL
  induction l generalizing v with
  | nil => exact h
  | cons c l ih => exact ih _ (crcK_lt v c 8 h)
theorem crcL_snoc (l : List UInt8) (c : UInt8) (v : Nat) : crcL (l ++ [c]) v = crcK (crcL l v) c 8 := by simp [crcL, List.foldl_append]
theorem take_snoc (s : ByteArray) (k : Nat) (h : k < s.size) : s.data.toList.take (k + 1) = s.data.toList.take k ++ [s[k]] := by
  rw [List.take_succ_eq_append_getElem (by simpa using h)]; rfl
theorem crc_next (s : ByteArray) (k v x y : Nat) (h : k < s.size) (H : Hid (crcL (s.data.toList.take k) v = x)) (J : Hid (crcK x s[k] 8 = y)) : Hid (crcL (s.data.toList.take (k + 1)) v = y) :=
  Lib.hid (by rw [take_snoc s k h, crcL_snoc, H.out, J.out])
theorem crc_bit (c : UInt8) (j : Nat) : wrap64 (bits BinOp.and IntKind.u8 ((c.toNat : Int) / 2 ^ (7 - j)) 1) = if c.toNat.testBit (7 - j) then 1 else 0 := by
  have h1 : ((c.toNat : Int) / 2 ^ (7 - j)) = ((c.toNat / 2 ^ (7 - j) : Nat) : Int) := by simp
  have h2 : c.toNat / 2 ^ (7 - j) < 256 := Nat.lt_of_le_of_lt (Nat.div_le_self _ _) (byte_lt c)
  rw [h1, u8_and_one _ h2, wrap64_nat _ (by omega), testBit_div]
  rcases Nat.mod_two_eq_zero_or_one (c.toNat / 2 ^ (7 - j)) with e | e <;> simp [e]
theorem crc_lost (y : Nat) (hy : y < 65536) : ((y : Int) / 32768) = if 32768 ≤ y then 1 else 0 := by split <;> omega
theorem crc_and (y : Nat) (hy : y < 65536) : bits BinOp.and IntKind.i64 ((y : Int) * 2) 65535 = ((y * 2 % 65536 : Nat) : Int) := by
  have := i64_and_nat (y * 2) 65535 (by omega) (by omega)
  rw [nat_mask16] at this
  rw [← this]; congr 1
theorem crc_xor (y : Nat) (hy : y < 65536) : bits BinOp.xor IntKind.i64 (y : Int) 4129 = ((y ^^^ 4129 : Nat) : Int) := i64_xor_nat y 4129 (by omega) (by omega)
theorem crc_yes (c : UInt8) (y j : Nat) (hy : y < 65536) (h : ((y : Int) / 32768 != wrap64 (bits BinOp.and IntKind.u8 ((c.toNat : Int) / 2 ^ (7 - j)) 1)) = true) :
    bits BinOp.xor IntKind.i64 (bits BinOp.and IntKind.i64 ((y : Int) * 2) 65535) 4129 = ((crcBit y (c.toNat.testBit (7 - j)) : Nat) : Int) := by
  rw [crc_bit, crc_lost y hy] at h
  rw [crc_and y hy, crc_xor _ (by omega)]
  unfold crcBit
  rw [if_pos]
  cases hb : c.toNat.testBit (7 - j) <;> simp [hb] at h ⊢ <;> omega
theorem crc_no (c : UInt8) (y j : Nat) (hy : y < 65536) (h : ((y : Int) / 32768 != wrap64 (bits BinOp.and IntKind.u8 ((c.toNat : Int) / 2 ^ (7 - j)) 1)) = false) :
    bits BinOp.and IntKind.i64 ((y : Int) * 2) 65535 = ((crcBit y (c.toNat.testBit (7 - j)) : Nat) : Int) := by
  rw [crc_bit, crc_lost y hy] at h
  rw [crc_and y hy]
  unfold crcBit
  rw [if_neg]
  cases hb : c.toNat.testBit (7 - j) <;> simp [hb] at h ⊢ <;> omega
theorem crcK_next (x : Nat) (c : UInt8) (j y : Nat) (H : Hid (crcK x c j = y)) : Hid (crcK x c (j + 1) = crcBit y (c.toNat.testBit (7 - j))) :=
  Lib.hid (by rw [crcK, H.out])

set_option maxHeartbeats 1000000 in
theorem crc_i (s : ByteArray) (v : Nat) (w : World) (hs : s.size ≤ 2097152) (hv : v < 65536) :
    Calls Tryz.prog 85 #[.string s, .int .i64 v] w fun e w' => e = .returned (.int .i64 (crcL s.data.toList v)) ∧ w = w' := by
  go_enter Tryz.func85, Tryz.ntmps85
  go_wp2
  go_loop [10, 1] (fun i n => ∃ k x : Nat, k ≤ s.size ∧ i = .int .i64 k ∧ n = .int .i64 x ∧ x < 65536 ∧ Hid (crcL (s.data.toList.take k) v = x)) (fun i _ => s.size - (intOf i).toNat)
  case atStart => exact ⟨0, v, by omega, rfl, rfl, hv, Lib.hid rfl⟩
  case round =>
    obtain ⟨k, x, hk, rfl, rfl, hx, HK⟩ := hrel
    by_cases hlt : k < s.size
    · go_wp2
      go_loop [6, 1] (fun i n => ∃ j y : Nat, j ≤ 8 ∧ i = .int .i64 (7 - (j : Int)) ∧ n = .int .i64 y ∧ y < 65536 ∧ Hid (crcK x s[k] j = y)) (fun i _ => (intOf i + 1).toNat)
      case atStart => exact ⟨0, x, by omega, rfl, rfl, hx, Lib.hid rfl⟩
      case round =>
        obtain ⟨j, y, hj, rfl, rfl, hy, HJ⟩ := hrel
        by_cases hj8 : j < 8
        · go_wp2
          · have ht : ((y : Int) / 32768 != wrap64 (bits BinOp.and IntKind.u8 ((s[k].toNat : Int) / 2 ^ (7 - j)) 1)) = true := by assumption
            go_round
            case rel => exact ⟨j + 1, _, by omega, by congr 1; omega, by rw [crc_yes _ _ _ hy ht], crcBit_lt _ _, crcK_next _ _ _ _ HJ⟩
            case measure => simp [intOf]; omega
          · have ht : ((y : Int) / 32768 != wrap64 (bits BinOp.and IntKind.u8 ((s[k].toNat : Int) / 2 ^ (7 - j)) 1)) = false := by assumption
            go_round
            case rel => exact ⟨j + 1, _, by omega, by congr 1; omega, by rw [crc_no _ _ _ hy ht], crcBit_lt _ _, crcK_next _ _ _ _ HJ⟩
            case measure => simp [intOf]; omega
        · obtain rfl : j = 8 := by omega
          go_wp2
          go_round
          case rel => exact ⟨k + 1, y, by omega, by go_num, rfl, hy, crc_next s k v x y hlt HK HJ⟩
          case measure => simp [intOf]; omega
    · go_wp2
      go_ret
      exact ⟨ret_int (by rw [← HK.out, List.take_of_length_le (by rw [data_len]; omega)]), rfl⟩

/-! the reference's -/
theorem crc_bit_s (c : UInt8) (j : Nat) : bits BinOp.and IntKind.i64 (wrap64 ((c.toNat : Int) / 2 ^ (7 - j))) 1 = if c.toNat.testBit (7 - j) then 1 else 0 := by
  have h1 : ((c.toNat : Int) / 2 ^ (7 - j)) = ((c.toNat / 2 ^ (7 - j) : Nat) : Int) := by simp
  have h2 : c.toNat / 2 ^ (7 - j) < 256 := Nat.lt_of_le_of_lt (Nat.div_le_self _ _) (byte_lt c)
  have h3 := i64_and_nat (c.toNat / 2 ^ (7 - j)) 1 (by omega) (by omega)
  rw [nat_mask1] at h3
  rw [h1, wrap64_nat _ (by omega)]
  refine Eq.trans h3 ?_
  rw [testBit_div]
  rcases Nat.mod_two_eq_zero_or_one (c.toNat / 2 ^ (7 - j)) with e | e <;> simp [e]
theorem crc_lost_s (y : Nat) (hy : y < 65536) : bits BinOp.and IntKind.i64 ((y : Int) / 32768) 1 = if 32768 ≤ y then 1 else 0 := by
  have h3 := i64_and_nat (y / 32768) 1 (by omega) (by omega)
  rw [nat_mask1] at h3
  have h1 : ((y : Int) / 32768) = ((y / 32768 : Nat) : Int) := by simp
  rw [h1]
  refine Eq.trans h3 ?_
  split <;> omega
theorem crc_yes_s (c : UInt8) (y j : Nat) (hy : y < 65536) (h : (bits BinOp.and IntKind.i64 ((y : Int) / 32768) 1 != bits BinOp.and IntKind.i64 (wrap64 ((c.toNat : Int) / 2 ^ (7 - j))) 1) = true) :
    bits BinOp.xor IntKind.i64 (bits BinOp.and IntKind.i64 ((y : Int) * 2) 65535) 4129 = ((crcBit y (c.toNat.testBit (7 - j)) : Nat) : Int) := by
  rw [crc_bit_s, crc_lost_s y hy] at h
  rw [crc_and y hy, crc_xor _ (by omega)]
  unfold crcBit
  rw [if_pos]
  cases hb : c.toNat.testBit (7 - j) <;> simp [hb] at h ⊢ <;> omega
theorem crc_no_s (c : UInt8) (y j : Nat) (hy : y < 65536) (h : (bits BinOp.and IntKind.i64 ((y : Int) / 32768) 1 != bits BinOp.and IntKind.i64 (wrap64 ((c.toNat : Int) / 2 ^ (7 - j))) 1) = false) :
    bits BinOp.and IntKind.i64 ((y : Int) * 2) 65535 = ((crcBit y (c.toNat.testBit (7 - j)) : Nat) : Int) := by
  rw [crc_bit_s, crc_lost_s y hy] at h
  rw [crc_and y hy]
  unfold crcBit
  rw [if_neg]
  cases hb : c.toNat.testBit (7 - j) <;> simp [hb] at h ⊢ <;> omega
set_option maxHeartbeats 1000000 in
theorem crc_s (s : ByteArray) (v : Nat) (w : World) (hs : s.size ≤ 2097152) (hv : v < 65536) :
    Calls Tryz.prog 76 #[.string s, .int .i64 v] w fun e w' => e = .returned (.int .i64 (crcL s.data.toList v)) ∧ w = w' := by
  go_enter Tryz.func76, Tryz.ntmps76
  go_wp2
  go_loop [6, 5] (fun i n => ∃ k x : Nat, k ≤ s.size ∧ i = .int .i64 k ∧ n = .int .i64 x ∧ x < 65536 ∧ Hid (crcL (s.data.toList.take k) v = x)) (fun i _ => s.size - (intOf i).toNat)
  case atStart => exact ⟨0, v, by omega, rfl, rfl, hv, Lib.hid rfl⟩
  case round =>
    obtain ⟨k, x, hk, rfl, rfl, hx, HK⟩ := hrel
    by_cases hlt : k < s.size
    · go_wp2
      go_loop [7, 5] (fun i n => ∃ j y : Nat, j ≤ 8 ∧ i = .int .i64 (7 - (j : Int)) ∧ n = .int .i64 y ∧ y < 65536 ∧ Hid (crcK x s[k] j = y)) (fun i _ => (intOf i + 1).toNat)
      case atStart => exact ⟨0, x, by omega, rfl, rfl, hx, Lib.hid rfl⟩
      case round =>
        obtain ⟨j, y, hj, rfl, rfl, hy, HJ⟩ := hrel
        by_cases hj8 : j < 8
        · go_wp2
          · have ht : (bits BinOp.and IntKind.i64 ((y : Int) / 32768) 1 != bits BinOp.and IntKind.i64 (wrap64 ((s[k].toNat : Int) / 2 ^ (7 - j))) 1) = true := by assumption
            go_round
            case rel => exact ⟨j + 1, _, by omega, by congr 1; omega, by rw [crc_yes_s _ _ _ hy ht], crcBit_lt _ _, crcK_next _ _ _ _ HJ⟩
            case measure => simp [intOf]; omega
          · have ht : (bits BinOp.and IntKind.i64 ((y : Int) / 32768) 1 != bits BinOp.and IntKind.i64 (wrap64 ((s[k].toNat : Int) / 2 ^ (7 - j))) 1) = false := by assumption
            go_round
            case rel => exact ⟨j + 1, _, by omega, by congr 1; omega, by rw [crc_no_s _ _ _ hy ht], crcBit_lt _ _, crcK_next _ _ _ _ HJ⟩
            case measure => simp [intOf]; omega
        · obtain rfl : j = 8 := by omega
          go_wp2
          go_round
          case rel => exact ⟨k + 1, y, by omega, by go_num, rfl, hy, crc_next s k v x y hlt HK HJ⟩
          case measure => simp [intOf]; omega
    · go_wp2
      go_ret
      exact ⟨ret_int (by rw [← HK.out, List.take_of_length_le (by rw [data_len]; omega)]), rfl⟩

/-- the check value from CrcStart on -/
def crcB (s : ByteArray) : Nat := crcL s.data.toList 65535
theorem crcS_i (s : ByteArray) (w : World) (hs : s.size ≤ 2097152) : Calls Tryz.prog 85 #[.string s, .int .i64 65535] w fun e w' => e = .returned (.int .i64 (crcB s)) ∧ w = w' :=
  crc_i s 65535 w hs (by omega)
theorem crcS_s (s : ByteArray) (w : World) (hs : s.size ≤ 2097152) : Calls Tryz.prog 76 #[.string s, .int .i64 65535] w fun e w' => e = .returned (.int .i64 (crcB s)) ∧ w = w' :=
  crc_s s 65535 w hs (by omega)
end Go.Proofs.YtddihmpiaemadaaGreatDoor
namespace Go.Proofs.YtddihmpiaemadaaGreatDoor
set_option linter.unusedVariables false
set_option linter.unusedSimpArgs false
open Go.RowKit

theorem nx4 (a b c d : Nat) : (a ^^^ b) ^^^ (c ^^^ d) = (a ^^^ c) ^^^ (b ^^^ d) := by
  rw [Nat.xor_assoc, ← Nat.xor_assoc b c d, Nat.xor_comm b c, Nat.xor_assoc c b d, ← Nat.xor_assoc a c]
theorem top_is (v : Nat) (h : v < 65536) : decide (32768 ≤ v) = v.testBit 15 := by
  rw [Nat.testBit_eq_decide_div_mod_eq]
  apply decide_eq_decide.2
  omega
theorem dbl_xor (x y : Nat) : (x ^^^ y) * 2 % 65536 = (x * 2 % 65536) ^^^ (y * 2 % 65536) := by
  have h : ∀ z : Nat, z * 2 % 65536 = (z <<< 1) % 2 ^ 16 := fun z => by rw [Nat.shiftLeft_eq]
  rw [h, h, h, Nat.shiftLeft_xor_distrib, Nat.xor_mod_two_pow]
theorem crcBit_is (v : Nat) (b : Bool) (h : v < 65536) : crcBit v b = (v * 2 % 65536) ^^^ (if (v.testBit 15) != b then 4129 else 0) := by
  unfold crcBit
  rw [top_is v h]
  split <;> simp
theorem crcBit_xor (x y : Nat) (a b : Bool) (hx : x < 65536) (hy : y < 65536) : crcBit (x ^^^ y) (a ^^ b) = crcBit x a ^^^ crcBit y b := by
  rw [crcBit_is x a hx, crcBit_is y b hy, crcBit_is _ _ (Nat.xor_lt_two_pow (n := 16) hx hy), nx4, dbl_xor, Nat.testBit_xor]
  congr 1
  cases x.testBit 15 <;> cases y.testBit 15 <;> cases a <;> cases b <;> rfl
theorem crcK_xor (x y : Nat) (c d : UInt8) (j : Nat) (hx : x < 65536) (hy : y < 65536) : crcK (x ^^^ y) (c ^^^ d) j = crcK x c j ^^^ crcK y d j := by
  induction j with
  | zero => rfl
  | succ j ih =>
    rw [crcK, crcK, crcK, ih, ← crcBit_xor _ _ _ _ (crcK_lt _ _ _ hx) (crcK_lt _ _ _ hy), UInt8.toNat_xor, Nat.testBit_xor]
theorem crcL_xor (l m : List UInt8) (a b : Nat) (h : l.length = m.length) (ha : a < 65536) (hb : b < 65536) : crcL (List.zipWith (· ^^^ ·) l m) (a ^^^ b) = crcL l a ^^^ crcL m b := by
  induction l generalizing m a b with
  | nil =>
    cases m with
    | nil => rfl
    | cons d m => simp at h
  | cons c l ih =>
    cases m with
    | nil => simp at h
    | cons d m =>
      have := ih m (crcK a c 8) (crcK b d 8) (by simpa using h) (crcK_lt _ _ _ ha) (crcK_lt _ _ _ hb)
      rw [← crcK_xor _ _ _ _ _ ha hb] at this
      simpa [crcL] using this
/-- the check value of bytes -/
def crcN (l : List Nat) (v : Nat) : Nat := crcL (l.map UInt8.ofNat) v
theorem crcN_lt (l : List Nat) (v : Nat) (h : v < 65536) : crcN l v < 65536 := crcL_lt _ _ h
theorem crcN_strN (l : List Nat) (v : Nat) : crcL (strN l).data.toList v = crcN l v := by
  unfold crcN strN
  rw [strOfNums_data, List.map_map]
  rfl
theorem crcN_bts (s : ByteArray) (v : Nat) : crcL s.data.toList v = crcN (bts s) v := by
  rw [← crcN_strN, strN_bts]
/-- the bytes with a bit changed -/
def flipN (l : List Nat) (bit : Nat) : List Nat := l.set (bit / 8) (l.getD (bit / 8) 0 ^^^ 128 / 2 ^ (bit % 8))
theorem flipN_len (l : List Nat) (bit : Nat) : (flipN l bit).length = l.length := by simp [flipN]
theorem pow_bit (k : Nat) (h : k < 8) : 128 / 2 ^ k < 256 := Nat.lt_of_le_of_lt (Nat.div_le_self _ _) (by omega)
theorem flipN_lt {l : List Nat} {bit : Nat} (h : ∀ x ∈ l, x < 256) : ∀ x ∈ flipN l bit, x < 256 := by
  intro x hx
  rcases List.mem_or_eq_of_mem_set hx with hx | rfl
  · exact h x hx
  · refine Nat.xor_lt_two_pow (n := 8) ?_ (pow_bit _ (Nat.mod_lt _ (by omega)))
    rw [List.getD_eq_getElem?_getD]
    cases hg : l[bit / 8]? with
    | none => simp
    | some y => exact h y (List.mem_of_getElem? hg)
/-- how a bit changes the check value of n bytes -/
def effN (n bit : Nat) : Nat := crcN (flipN (List.replicate n 0) bit) 0
theorem effN_lt (n bit : Nat) : effN n bit < 65536 := crcN_lt _ _ (by omega)
end Go.Proofs.YtddihmpiaemadaaGreatDoor
namespace Go.Proofs.YtddihmpiaemadaaGreatDoor
set_option linter.unusedVariables false
set_option linter.unusedSimpArgs false
open Go.RowKit

theorem bit_split (bit : Nat) : ∃ k r, bit / 8 = k ∧ bit % 8 = r ∧ r < 8 ∧ bit = 8 * k + r := ⟨bit / 8, bit % 8, rfl, rfl, Nat.mod_lt _ (by omega), by omega⟩
theorem flipN_at {l : List Nat} {bit k r x : Nat} (hk : bit / 8 = k) (hr : bit % 8 = r) (hx : l[k]? = some x) : flipN l bit = l.set k (x ^^^ 128 / 2 ^ r) := by
  unfold flipN; rw [hk, hr, List.getD_eq_getElem?_getD, hx]; rfl
theorem xor_u8 (x y : Nat) (hx : x < 256) (hy : y < 256) : bits .xor .u8 (x : Int) (y : Int) = ((x ^^^ y : Nat) : Int) := by
  have h : x ^^^ y < 2 ^ 8 := Nat.xor_lt_two_pow (by omega) (by omega)
  show IntKind.u8.wrap ((BitVec.ofInt 8 (x : Int) ^^^ BitVec.ofInt 8 (y : Int)).toNat : Int) = _
  rw [BitVec.toNat_xor, BitVec.ofInt_natCast, BitVec.ofInt_natCast, BitVec.toNat_ofNat, BitVec.toNat_ofNat, Nat.mod_eq_of_lt (by omega), Nat.mod_eq_of_lt (by omega), IntKind.wrap_u8]
  omega
theorem xor_sh (x r : Nat) (hx : x < 256) (hr : r < 8) : bits .xor .u8 (x : Int) (128 / 2 ^ r) = ((x ^^^ 128 / 2 ^ r : Nat) : Int) := by
  have := xor_u8 x (128 / 2 ^ r) hx (pow_bit r hr)
  rw [← this]; simp
set_option maxRecDepth 20000 in
set_option maxHeartbeats 1000000 in
theorem flip_i (s : ByteArray) (bit : Nat) (w : World) (hb : bit < 8 * s.size) (hs : s.size ≤ 1048576) :
    Calls Tryz.prog 189 #[.string s, .int .i64 bit] w fun e w' => e = .returned (.string (strN (flipN (bts s) bit))) ∧ Below w.heap.size w w' := by
  obtain ⟨c, wb, hcv, hbuf, hb0, hwz⟩ := buf_of_str w s
  obtain ⟨k, r, hk, hr, hr8, hbit⟩ := bit_split bit
  have hl := bts_len s
  have hkl : k < s.size := by omega
  have hx := bts_get hkl
  obtain ⟨p1, p2⟩ := hbuf k _ hx
  have hx8 := UInt8.toNat_lt s[k]
  generalize s[k].toNat = x at *
  have HS := Lib.hid (hbuf.set (x ^^^ 128 / 2 ^ r) hx)
  rw [← flipN_at hk hr hx] at HS
  have e1 : ((bit : Int) / 8) = (k : Int) := by omega
  have e2 : ((bit : Int) % 8) = (r : Int) := by omega
  have hxs := xor_sh x r hx8 hr8
  have hst := (HS.out.block (w' := (wb.setCell ⟨w.heap.size, k, none⟩ (.int .u8 ((x ^^^ 128 / 2 ^ r : Nat) : Int))).drew) rfl).str (n := s.size) (c := c) (by rw [flipN_len, hl])
  have e3 : ((bit : Int).tmod 8) = (r : Int) := by rw [Int.tmod_eq_emod_of_nonneg (by omega)]; omega
  have hww : IntKind.i64.wrap (k : Int) = k := by rw [IntKind.wrap_i64]; omega
  have hwr : IntKind.i64.wrap (r : Int) = r := by rw [IntKind.wrap_i64]; omega
  clear hx hbuf hk hr hbit
  go_enter Tryz.func189, Tryz.ntmps189
  go_wp2
  have q1 := (show ({ wb with drawn := wb.drawn + 1 } : World).cell? _ = _ from p1)
  have q2 := (show ({ wb with drawn := wb.drawn + 1 } : World).frozen? _ = _ from p2)
  go_still_tail 10, (by kernel_rfl)
  go_wp2
  go_ret
  exact ⟨rfl, (by repeat (first | exact Below.refl _ _ | refine Below.alloc ?_ (by first | omega | (simp; done) | (simp; omega)) _ | apply Below.drew | apply below_drewN | refine Below.setCell ?_ (by first | omega | (simp; done) | (simp; omega)) _ | refine Below.trans ?_ (Below.mono (by assumption) (by first | omega | (simp; done) | (simp; omega)))))⟩
theorem crcn_i (s : ByteArray) (v : Nat) (w : World) (hs : s.size ≤ 2097152) (hv : v < 65536) :
    Calls Tryz.prog 85 #[.string s, .int .i64 v] w fun e w' => e = .returned (.int .i64 (crcN (bts s) v)) ∧ w = w' := by
  rw [← crcN_bts]; exact crc_i s v w hs hv
theorem bts_zero (n : Nat) : bts (strN (List.replicate n 0)) = List.replicate n 0 := bts_strN (by intro x h; obtain ⟨_, rfl⟩ := List.mem_replicate.1 h; omega)
theorem zero_lt (n : Nat) : ∀ x ∈ List.replicate n 0, x < 256 := by intro x h; obtain ⟨_, rfl⟩ := List.mem_replicate.1 h; omega
set_option maxHeartbeats 1000000 in
theorem eff_i (n bit : Nat) (w : World) (hn : n ≤ 64) (hb : bit < 8 * n) :
    Calls Tryz.prog 176 #[.int .i64 n, .int .i64 bit] w fun e w' => e = .returned (.int .i64 (effN n bit)) ∧ Below w.heap.size w w' := by
  have H1 := fun w => flip_i (strN (List.replicate n 0)) bit w (by rw [strN_size]; simp; omega) (by rw [strN_size]; simp; omega)
  rw [bts_zero] at H1
  have H2 := fun w => crcn_i (strN (flipN (List.replicate n 0) bit)) 0 w (by rw [strN_size, flipN_len]; simp; omega) (by omega)
  rw [bts_strN (flipN_lt (zero_lt n))] at H2
  have HX1 := Lib.hid H1
  have HX2 := Lib.hid H2
  clear H1 H2
  have HE : Hid (effN n bit = crcN (flipN (List.replicate n 0) bit) 0) := Lib.hid rfl
  go_enter Tryz.func176, Tryz.ntmps176
  go_wp2_with (fail)
  refine (zeros_i n _ (by omega)).mono ?_; rintro e w1 ⟨rfl, hb1⟩
  go_wp2_with (fail)
  refine (HX1.out _).mono ?_; rintro e w2 ⟨rfl, hb2⟩
  go_wp2_with (fail)
  refine (HX2.out _).mono ?_; rintro e w3 ⟨rfl, rfl⟩
  have z1 := hb1.size
  go_wp2
  go_ret
  exact ⟨ret_int (by rw [HE.out]), (by repeat (first | exact Below.refl _ _ | refine Below.alloc ?_ (by first | omega | (simp; done) | (simp; omega)) _ | apply Below.drew | apply below_drewN | refine Below.setCell ?_ (by first | omega | (simp; done) | (simp; omega)) _ | refine Below.trans ?_ (Below.mono (by assumption) (by first | omega | (simp; done) | (simp; omega)))))⟩
end Go.Proofs.YtddihmpiaemadaaGreatDoor
