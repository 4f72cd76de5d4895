/- SolveBytes: the plain law. Products in the field of 256 numbers, impl and spec: the walks. GfPow, impl and spec: the walks. Products in the field of 256 numbers: their plain laws. xorBytes, scaled, l23Plus: the walks. scaled: the walk. isGroup23, l23Group: the walks. isGroup23, l23Group: the walks. -/
import Derived.Test.YtddihmpiaemadaaGreatDoorFc13
import Derived.Test.YtddihmpiaemadaaGreatDoorFc01
import Derived.Test.YtddihmpiaemadaaGreatDoorFc02
namespace Go.Proofs.YtddihmpiaemadaaGreatDoor
set_option linter.unusedVariables false
set_option linter.unusedSimpArgs false
open Go.RowKit
/-- the bits of places, n of them -/
def exN (pl : List Nat) (n : Nat) : List Nat := (List.range n).map fun j => 8 * pl.getD (j / 8) 0 + j % 8
theorem exN_len (pl : List Nat) (n : Nat) : (exN pl n).length = n := by simp [exN]
theorem exN_next {pl : List Nat} {k b p : Nat} (hb : b < 8) (hp : pl[k]? = some p) : exN pl (8 * k + (b + 1)) = exN pl (8 * k + b) ++ [8 * p + b] := by
  rw [show 8 * k + (b + 1) = (8 * k + b) + 1 by omega]
  unfold exN
  rw [List.range_succ, List.map_append, List.map_cons, List.map_nil, show (8 * k + b) / 8 = k by omega, show (8 * k + b) % 8 = b by omega, List.getD_eq_getElem?_getD, hp]; rfl
theorem exN_mem {pl : List Nat} {m x : Nat} (h : ∀ p ∈ pl, p < m) (hx : x ∈ exN pl (8 * pl.length)) : x < 8 * m := by
  obtain ⟨j, hj, rfl⟩ := List.mem_map.1 hx
  have hj' := List.mem_range.1 hj
  have := h (pl.getD (j / 8) 0) (getD_mem (by omega))
  omega
theorem exN_srt {pl : List Nat} (h : pl.Pairwise (· < ·)) : (exN pl (8 * pl.length)).Pairwise (· < ·) := by
  refine List.pairwise_map.2 ((List.pairwise_lt_range (n := 8 * pl.length)).imp_of_mem fun {a b} ha hb hab => ?_)
  have hb' := List.mem_range.1 hb
  have ha' := List.mem_range.1 ha
  by_cases e : a / 8 = b / 8
  · rw [e]; omega
  · have h1 : a / 8 < b / 8 := by omega
    have g1 : pl.getD (a / 8) 0 = pl[a / 8]'(by omega) := by rw [List.getD_eq_getElem?_getD, List.getElem?_eq_getElem (by omega)]; rfl
    have g2 : pl.getD (b / 8) 0 = pl[b / 8]'(by omega) := by rw [List.getD_eq_getElem?_getD, List.getElem?_eq_getElem (by omega)]; rfl
    have := List.pairwise_iff_getElem.1 h (a / 8) (b / 8) (by omega) (by omega) h1
    rw [g1, g2]; omega
def sbOk (s : ByteArray) (l : List Int) (c : Int) : Bool := (inB s.size 1 64 && inB c 0 65535) && (risesB 0 (s.size - 1) l && decide (l.length ≤ 8))
theorem places_nat {s : ByteArray} {l : List Int} (h : risesB 0 (s.size - 1) l = true) : ∃ pl : List Nat, l = intsN pl ∧ (∀ p ∈ pl, p < s.size) ∧ pl.Pairwise (· < ·) := by
  obtain ⟨b1, b2, _⟩ := rises_low h
  have e : l = (l.map Int.toNat).map (fun i : Nat => (i : Int)) := by
    rw [List.map_map]
    conv => lhs; rw [← List.map_id l]
    refine List.map_congr_left fun x hx => ?_
    have := b1 x hx
    simp only [Function.comp_apply, id_eq]; omega
  refine ⟨l.map Int.toNat, e, fun b hb => ?_, ?_⟩
  · obtain ⟨x, hx, rfl⟩ := List.mem_map.1 hb
    have := b1 x hx; omega
  · refine List.pairwise_map.2 (b2.imp_of_mem fun ha hb hab => ?_)
    have := b1 _ ha; have := b1 _ hb; omega
/-- what the solver answers, from the reference's solved form -/
def sbR (s : ByteArray) (U : List Nat) (X : Option (List Rw)) : ByteArray × Int := match X with
  | none => (.empty, 3)
  | some b => if b.length < U.length then (.empty, 11) else (strN (fillN (bts s) U (comp low b 0).testBit), 0)
def sbE (s : ByteArray) (l : List Int) (c : Int) : ByteArray × Int := if sbOk s l c then sbR s (exN (l.map Int.toNat) (8 * l.length)) (redS (rowsOf s (exN (l.map Int.toNat) (8 * l.length)) c.toNat)) else (.empty, 1)
def sbV (s : ByteArray) (l : List Int) (c : Int) : Value := .tuple #[.string (sbE s l c).1, .int .i64 (sbE s l c).2]
theorem sbV_no {s : ByteArray} {l : List Int} {c : Int} (h : sbOk s l c = false) : sbV s l c = .tuple #[.string .empty, .int .i64 1] := by unfold sbV sbE; rw [h]; rfl
theorem sbV_yes {s : ByteArray} {pl : List Nat} {c : Nat} (h : sbOk s (intsN pl) c = true) : sbV s (intsN pl) c = .tuple #[.string (sbR s (exN pl (8 * pl.length)) (redS (rowsOf s (exN pl (8 * pl.length)) c))).1, .int .i64 (sbR s (exN pl (8 * pl.length)) (redS (rowsOf s (exN pl (8 * pl.length)) c))).2] := by
  unfold sbV sbE; rw [if_pos h, intsN_back, Int.toNat_natCast, intsN_len]
end Go.Proofs.YtddihmpiaemadaaGreatDoor
namespace Go.Proofs.YtddihmpiaemadaaGreatDoor
set_option linter.unusedVariables false
set_option linter.unusedSimpArgs false
open Go.RowKit

def xt (a : Nat) : Nat := if 255 < 2 * a then (2 * a) ^^^ 285 else 2 * a
theorem xt_lt {a : Nat} (h : a < 256) : xt a < 256 := by
  have : ∀ a : Fin 256, xt a.1 < 256 := by decide +kernel
  exact this ⟨a, h⟩
def gmul (a b acc : Nat) : Nat := if b = 0 then acc else gmul (xt a) (b / 2) (if b % 2 = 1 then acc ^^^ a else acc)
  termination_by b
  decreasing_by omega
theorem gmul_zero (a acc : Nat) : gmul a 0 acc = acc := by rw [gmul]; simp
theorem gmul_odd {a b acc : Nat} (h : b % 2 = 1) : gmul a b acc = gmul (xt a) (b / 2) (acc ^^^ a) := by
  rw [gmul, if_neg (by omega), if_pos h]
theorem gmul_even {a b acc : Nat} (h0 : b ≠ 0) (h : b % 2 = 0) : gmul a b acc = gmul (xt a) (b / 2) acc := by
  rw [gmul, if_neg h0, if_neg (by omega)]
theorem gmul_lt {a b acc : Nat} (ha : a < 256) (hc : acc < 256) : gmul a b acc < 256 := by
  induction b using Nat.strongRecOn generalizing a acc with
  | ind b ih =>
    by_cases h0 : b = 0
    · subst h0; rw [gmul_zero]; exact hc
    · by_cases h : b % 2 = 1
      · rw [gmul_odd h]; exact ih _ (by omega) (xt_lt ha) (Nat.xor_lt_two_pow (n := 8) hc ha)
      · rw [gmul_even h0 (by omega)]; exact ih _ (by omega) (xt_lt ha) hc
set_option maxRecDepth 20000 in
set_option maxHeartbeats 1000000 in
theorem gmul_s (a b : Nat) (w : World) (ha : a < 256) (hb : b < 256) :
    Calls Tryz.prog 170 #[.int .i64 a, .int .i64 b] w fun e w' => e = .returned (.int .i64 ((gmul a b 0 : Nat) : Int)) ∧ w = w' := by
  go_enter Tryz.func170, Tryz.ntmps170
  go_wp2
  go_loop [0, 1, 5] (fun x y z => ∃ p q r : Nat, x = .int .i64 p ∧ y = .int .i64 q ∧ z = .int .i64 r ∧ p < 256 ∧ q < 256 ∧ r < 256 ∧ Hid (gmul a b 0 = gmul p q r)) (fun _ y _ => (intOf y).toNat)
  case atStart => exact ⟨a, b, 0, rfl, rfl, rfl, ha, hb, by omega, Lib.hid rfl⟩
  case round =>
    obtain ⟨p, q, r, rfl, rfl, rfl, hp, hq, hr, HK⟩ := hrel
    have x1 := i64_xor_nat r p (by omega) (by omega)
    by_cases hq0 : q = 0
    · subst hq0
      go_wp2
      go_ret
      refine ⟨?_, rfl⟩
      rw [HK.out, gmul_zero]; rfl
    · have hqp : 0 < q := by omega
      by_cases hp1 : 256 ≤ p * 2
      · have hpi : decide ((256 : Int) ≤ (p : Int) * 2) = true := by simp; omega
        have hx : xt p = (p * 2) ^^^ 285 := by unfold xt; rw [if_pos (by omega), Nat.mul_comm]
        have x2 : bits BinOp.xor IntKind.i64 ((p : Int) * 2) 285 = ((xt p : Nat) : Int) := by rw [hx]; exact i64_xor_nat (p * 2) 285 (by omega) (by omega)
        clear hx
        by_cases hq1 : q % 2 = 1
        · have HN := Lib.hid (gmul_odd (a := p) (acc := r) hq1)
          have hqi : ((q : Int) % 2 == 1) = true := by simp; omega
          clear hq1
          go_wp2
          go_round
          case rel => exact ⟨xt p, q / 2, r ^^^ p, rfl, by go_num, rfl, xt_lt hp, by omega, Nat.xor_lt_two_pow (n := 8) hr hp, Lib.hid (HK.out.trans HN.out)⟩
          case measure => simp [intOf]; omega
        · have HN := Lib.hid (gmul_even (a := p) (acc := r) hq0 (by omega))
          have hqi : ((q : Int) % 2 == 1) = false := by simp; omega
          clear hq1
          go_wp2
          go_round
          case rel => exact ⟨xt p, q / 2, r, rfl, by go_num, rfl, xt_lt hp, by omega, hr, Lib.hid (HK.out.trans HN.out)⟩
          case measure => simp [intOf]; omega
      · have hpi : decide ((256 : Int) ≤ (p : Int) * 2) = false := by simp; omega
        have hx : xt p = p * 2 := by unfold xt; rw [if_neg (by omega), Nat.mul_comm]
        by_cases hq1 : q % 2 = 1
        · have HN := Lib.hid (gmul_odd (a := p) (acc := r) hq1)
          have hqi : ((q : Int) % 2 == 1) = true := by simp; omega
          clear hq1
          go_wp2
          go_round
          case rel => exact ⟨xt p, q / 2, r ^^^ p, by rw [hx]; go_num, by go_num, rfl, xt_lt hp, by omega, Nat.xor_lt_two_pow (n := 8) hr hp, Lib.hid (HK.out.trans HN.out)⟩
          case measure => simp [intOf]; omega
        · have HN := Lib.hid (gmul_even (a := p) (acc := r) hq0 (by omega))
          have hqi : ((q : Int) % 2 == 1) = false := by simp; omega
          clear hq1
          go_wp2
          go_round
          case rel => exact ⟨xt p, q / 2, r, by rw [hx]; go_num, by go_num, rfl, xt_lt hp, by omega, hr, Lib.hid (HK.out.trans HN.out)⟩
          case measure => simp [intOf]; omega
set_option maxRecDepth 20000 in
set_option maxHeartbeats 1000000 in
theorem gmul_i (a b : Nat) (w : World) (ha : a < 256) (hb : b < 256) :
    Calls Tryz.prog 155 #[.int .i64 a, .int .i64 b] w fun e w' => e = .returned (.int .i64 ((gmul a b 0 : Nat) : Int)) ∧ w = w' := by
  go_enter Tryz.func155, Tryz.ntmps155
  go_wp2
  go_loop [0, 1, 5] (fun x y z => ∃ p q r : Nat, x = .int .i64 p ∧ y = .int .i64 q ∧ z = .int .i64 r ∧ p < 256 ∧ q < 256 ∧ r < 256 ∧ Hid (gmul a b 0 = gmul p q r)) (fun _ y _ => (intOf y).toNat)
  case atStart => exact ⟨a, b, 0, rfl, rfl, rfl, ha, hb, by omega, Lib.hid rfl⟩
  case round =>
    obtain ⟨p, q, r, rfl, rfl, rfl, hp, hq, hr, HK⟩ := hrel
    have x1 := i64_xor_nat r p (by omega) (by omega)
    have x4 : bits BinOp.and IntKind.i64 (q : Int) 1 = ((q % 2 : Nat) : Int) := by have := i64_and_nat q 1 (by omega) (by omega); rw [Nat.and_one_is_mod] at this; exact this
    by_cases hq0 : q = 0
    · subst hq0
      go_wp2
      go_ret
      refine ⟨?_, rfl⟩
      rw [HK.out, gmul_zero]; rfl
    · have hqp : 0 < q := by omega
      by_cases hp1 : 256 ≤ p * 2
      · have hpi : decide ((255 : Int) < (p : Int) * 2) = true := by simp; omega
        have hx : xt p = (p * 2) ^^^ 285 := by unfold xt; rw [if_pos (by omega), Nat.mul_comm]
        have x2 : bits BinOp.xor IntKind.i64 ((p : Int) * 2) 285 = ((xt p : Nat) : Int) := by rw [hx]; exact i64_xor_nat (p * 2) 285 (by omega) (by omega)
        clear hx
        by_cases hq1 : q % 2 = 1
        · have HN := Lib.hid (gmul_odd (a := p) (acc := r) hq1)
          have hqi : (((q % 2 : Nat) : Int) == 1) = true := by simp; omega
          clear hq1
          go_wp2
          go_round
          case rel => exact ⟨xt p, q / 2, r ^^^ p, rfl, by go_num, rfl, xt_lt hp, by omega, Nat.xor_lt_two_pow (n := 8) hr hp, Lib.hid (HK.out.trans HN.out)⟩
          case measure => simp [intOf]; omega
        · have HN := Lib.hid (gmul_even (a := p) (acc := r) hq0 (by omega))
          have hqi : (((q % 2 : Nat) : Int) == 1) = false := by simp; omega
          clear hq1
          go_wp2
          go_round
          case rel => exact ⟨xt p, q / 2, r, rfl, by go_num, rfl, xt_lt hp, by omega, hr, Lib.hid (HK.out.trans HN.out)⟩
          case measure => simp [intOf]; omega
      · have hpi : decide ((255 : Int) < (p : Int) * 2) = false := by simp; omega
        have hx : xt p = p * 2 := by unfold xt; rw [if_neg (by omega), Nat.mul_comm]
        by_cases hq1 : q % 2 = 1
        · have HN := Lib.hid (gmul_odd (a := p) (acc := r) hq1)
          have hqi : (((q % 2 : Nat) : Int) == 1) = true := by simp; omega
          clear hq1
          go_wp2
          go_round
          case rel => exact ⟨xt p, q / 2, r ^^^ p, by rw [hx]; go_num, by go_num, rfl, xt_lt hp, by omega, Nat.xor_lt_two_pow (n := 8) hr hp, Lib.hid (HK.out.trans HN.out)⟩
          case measure => simp [intOf]; omega
        · have HN := Lib.hid (gmul_even (a := p) (acc := r) hq0 (by omega))
          have hqi : (((q % 2 : Nat) : Int) == 1) = false := by simp; omega
          clear hq1
          go_wp2
          go_round
          case rel => exact ⟨xt p, q / 2, r, by rw [hx]; go_num, by go_num, rfl, xt_lt hp, by omega, hr, Lib.hid (HK.out.trans HN.out)⟩
          case measure => simp [intOf]; omega
end Go.Proofs.YtddihmpiaemadaaGreatDoor
namespace Go.Proofs.YtddihmpiaemadaaGreatDoor
set_option linter.unusedVariables false
set_option linter.unusedSimpArgs false
open Go.RowKit

def gpow : Nat → Nat
  | 0 => 1
  | k + 1 => gmul (gpow k) 2 0
theorem gpow_lt (k : Nat) : gpow k < 256 := by
  cases k with
  | zero => decide
  | succ k => exact gmul_lt (gpow_lt k) (by omega)
/-- the remainder at 255 that is not below 0 -/
def m255 (x : Int) : Nat := (x % 255).toNat
theorem m255_lt (x : Int) : m255 x < 255 := by unfold m255; omega
theorem m255_is (x : Int) : (Int.tmod (Int.tmod x 255 + 255) 255) = (m255 x : Int) := by
  rcases Int.le_total 0 x with h | h
  · rw [Int.tmod_eq_emod_of_nonneg h, Int.tmod_eq_emod_of_nonneg (by omega)]; unfold m255; omega
  · have e : x.tmod 255 = -((-x) % 255) := by
      rw [← Int.tmod_eq_emod_of_nonneg (a := -x) (by omega), Int.neg_tmod, Int.neg_neg]
    rw [e, Int.tmod_eq_emod_of_nonneg (by omega)]; unfold m255; omega
theorem tmod255_bd (x : Int) : -255 < x.tmod 255 ∧ x.tmod 255 < 255 := by
  rcases Int.le_total 0 x with h | h
  · rw [Int.tmod_eq_emod_of_nonneg h]; omega
  · have e : x.tmod 255 = -((-x) % 255) := by
      rw [← Int.tmod_eq_emod_of_nonneg (a := -x) (by omega), Int.neg_tmod, Int.neg_neg]
    omega
theorem mod255_i (x : Int) (w : World) (hx : -9223372036854775808 ≤ x ∧ x ≤ 9223372036854775807) : Calls Tryz.prog 156 #[.int .i64 x, .int .i64 255] w fun e w' => e = .returned (.int .i64 (m255 x)) ∧ w = w' := by
  go_enter Tryz.func156, Tryz.ntmps156
  go_wp2
  refine bodyPost_ret (v := .int .i64 (m255 x)) ?_ rfl ⟨rfl, rfl⟩
  rw [← m255_is x]
  have hb := tmod255_bd x
  have hw : wrap64 (x.tmod 255 + 255) = x.tmod 255 + 255 := by unfold wrap64; omega
  simp [results, Tryz.results156, go_sem, hw]
set_option maxRecDepth 20000 in
set_option maxHeartbeats 1000000 in
theorem gpow_i (x : Int) (w : World) (hx : -9223372036854775808 ≤ x ∧ x ≤ 9223372036854775807) : Calls Tryz.prog 119 #[.int .i64 x] w fun e w' => e = .returned (.int .i64 (gpow (m255 x))) ∧ w = w' := by
  have hm := m255_lt x
  go_enter Tryz.func119, Tryz.ntmps119
  go_wp2_with (go_at_call 156; refine (mod255_i x w hx).mono ?_; rintro e w1 ⟨rfl, rfl⟩)
  generalize hmm : m255 x = m at *
  go_loop [6, 3] (fun i v => ∃ k : Nat, k ≤ m ∧ i = .int .i64 k ∧ v = .int .i64 (gpow k)) (fun i _ => m - (intOf i).toNat)
  case atStart => exact ⟨0, by omega, rfl, rfl⟩
  case round =>
    obtain ⟨k, hk, rfl, rfl⟩ := hrel
    have hg := gpow_lt k
    by_cases hlt : k < m
    · go_wp2_with (go_at_call 155; refine (gmul_i (gpow k) 2 w hg (by omega)).mono ?_; rintro e w1 ⟨rfl, rfl⟩)
      go_round
      case rel => exact ⟨k + 1, by omega, by go_num, rfl⟩
      case measure => simp [intOf]; omega
    · have : k = m := by omega
      subst this
      go_wp2
      go_ret
      exact ⟨rfl, rfl⟩
set_option maxRecDepth 20000 in
set_option maxHeartbeats 1000000 in
theorem gpow_s (x : Int) (w : World) (hx : -9223372036854775808 ≤ x ∧ x ≤ 9223372036854775807) : Calls Tryz.prog 135 #[.int .i64 x] w fun e w' => e = .returned (.int .i64 (gpow (m255 x))) ∧ w = w' := by
  have hm := m255_lt x
  have hb := tmod255_bd x
  have hw : wrap64 (x.tmod 255 + 255) = x.tmod 255 + 255 := by unfold wrap64; omega
  have hi := m255_is x
  generalize hmm : m255 x = m at *
  go_enter Tryz.func135, Tryz.ntmps135
  go_wp2
  go_loop [0, 3] (fun i v => ∃ k : Nat, k ≤ m ∧ i = .int .i64 ((m - k : Nat) : Int) ∧ v = .int .i64 (gpow k)) (fun i _ => (intOf i).toNat)
  case atStart => exact ⟨0, by omega, by simp [← hi, hw], rfl⟩
  case round =>
    obtain ⟨k, hk, rfl, rfl⟩ := hrel
    have hg := gpow_lt k
    by_cases hlt : k < m
    · obtain ⟨j, hj⟩ : ∃ j, m - k = j + 1 := ⟨m - k - 1, by omega⟩
      rw [hj]
      go_wp2_with (go_at_call 170; refine (gmul_s (gpow k) 2 w hg (by omega)).mono ?_; rintro e w1 ⟨rfl, rfl⟩)
      go_round
      case rel => exact ⟨k + 1, by omega, by rw [show m - (k + 1) = j by omega]; try go_num, rfl⟩
      case measure => simp [intOf]; try omega
    · have : k = m := by omega
      subst this
      go_wp2
      go_ret
      exact ⟨rfl, rfl⟩
end Go.Proofs.YtddihmpiaemadaaGreatDoor
namespace Go.Proofs.YtddihmpiaemadaaGreatDoor
set_option linter.unusedVariables false
set_option linter.unusedSimpArgs false
open Go.RowKit

theorem x4 (a b c d : Nat) : (a ^^^ b) ^^^ (c ^^^ d) = (a ^^^ c) ^^^ (b ^^^ d) := by
  rw [Nat.xor_assoc, ← Nat.xor_assoc b c d, Nat.xor_comm b c, Nat.xor_assoc c b d, ← Nat.xor_assoc a c]
theorem gmul_one (a : Nat) : gmul a 1 0 = a := by
  rw [gmul_odd rfl, gmul_zero]; simp
end Go.Proofs.YtddihmpiaemadaaGreatDoor
namespace Go.Proofs.YtddihmpiaemadaaGreatDoor
set_option linter.unusedVariables false
set_option linter.unusedSimpArgs false
open Go.RowKit

/-- r up to k, l from there -/
def updP (l r : List Nat) (k : Nat) : List Nat := r.take k ++ l.drop k
theorem upd_zero (l r : List Nat) : updP l r 0 = l := by simp [updP]
theorem upd_end {l r : List Nat} {k : Nat} (h : r.length = l.length) (hk : l.length ≤ k) : updP l r k = r := by
  unfold updP; rw [List.take_of_length_le (by omega), List.drop_of_length_le hk, List.append_nil]
theorem upd_len {l r : List Nat} (h : r.length = l.length) (k : Nat) : (updP l r k).length = l.length := by
  simp [updP]; omega
theorem upd_get {l r : List Nat} {k : Nat} (h : r.length = l.length) (hk : k < l.length) : (updP l r k)[k]? = l[k]? := by
  unfold updP
  have e : (r.take k).length = k := by simp; omega
  rw [List.getElem?_append_right (by omega), e, Nat.sub_self, List.getElem?_drop, Nat.add_zero]
theorem upd_set {l r : List Nat} {k x : Nat} (h : r.length = l.length) (hk : r[k]? = some x) : (updP l r k).set k x = updP l r (k + 1) := by
  obtain ⟨hk', rfl⟩ := List.getElem?_eq_some_iff.1 hk
  unfold updP
  have e : (r.take k).length = k := by simp; omega
  have ed : l.drop k = l[k]'(by omega) :: l.drop (k + 1) := List.drop_eq_getElem_cons (by omega)
  rw [List.set_append_right _ _ (by omega), e, Nat.sub_self, ed, List.set_cons_zero, List.take_succ_eq_append_getElem hk', List.append_assoc]
  rfl
def xorN (a b : List Nat) : List Nat := List.zipWith (· ^^^ ·) a b
def scN (f : Nat) (a : List Nat) : List Nat := a.map fun x => gmul x f 0
def plusN (a : List Nat) (f : Nat) (b : List Nat) : List Nat := List.zipWith (fun x y => x ^^^ gmul y f 0) a b
theorem xorN_len {a b : List Nat} (h : a.length ≤ b.length) : (xorN a b).length = a.length := by simp [xorN]; omega
theorem plusN_len {a b : List Nat} {f : Nat} (h : a.length ≤ b.length) : (plusN a f b).length = a.length := by simp [plusN]; omega
theorem scN_len (f : Nat) (a : List Nat) : (scN f a).length = a.length := by simp [scN]
theorem xorN_get {a b : List Nat} {k x y : Nat} (hx : a[k]? = some x) (hy : b[k]? = some y) : (xorN a b)[k]? = some (x ^^^ y) := by
  simp [xorN, List.getElem?_zipWith, hx, hy]
theorem plusN_get {a b : List Nat} {f k x y : Nat} (hx : a[k]? = some x) (hy : b[k]? = some y) : (plusN a f b)[k]? = some (x ^^^ gmul y f 0) := by
  simp [plusN, List.getElem?_zipWith, hx, hy]
theorem scN_get {a : List Nat} {f k x : Nat} (hx : a[k]? = some x) : (scN f a)[k]? = some (gmul x f 0) := by
  simp [scN, hx]
theorem xor_u8P (x y : Nat) (hx : x < 256) (hy : y < 256) : bits .xor .u8 (x : Int) (y : Int) = ((x ^^^ y : Nat) : Int) := by
  have h : x ^^^ y < 2 ^ 8 := Nat.xor_lt_two_pow (by omega) (by omega)
  show IntKind.u8.wrap ((BitVec.ofInt 8 (x : Int) ^^^ BitVec.ofInt 8 (y : Int)).toNat : Int) = _
  rw [BitVec.toNat_xor, BitVec.ofInt_natCast, BitVec.ofInt_natCast, BitVec.toNat_ofNat, BitVec.toNat_ofNat, Nat.mod_eq_of_lt (by omega), Nat.mod_eq_of_lt (by omega), IntKind.wrap_u8]
  omega
theorem xorN_lt {a b : List Nat} (ha : ∀ x ∈ a, x < 256) (hb : ∀ x ∈ b, x < 256) : ∀ x ∈ xorN a b, x < 256 := by
  intro x h
  obtain ⟨k, hk, rfl⟩ := List.mem_iff_getElem.1 h
  simp only [xorN, List.getElem_zipWith]
  exact Nat.xor_lt_two_pow (n := 8) (ha _ (List.getElem_mem _)) (hb _ (List.getElem_mem _))
theorem scN_lt {f : Nat} {a : List Nat} (ha : ∀ x ∈ a, x < 256) : ∀ x ∈ scN f a, x < 256 := by
  intro x h
  simp only [scN, List.mem_map] at h
  obtain ⟨y, hy, rfl⟩ := h
  exact gmul_lt (ha y hy) (by omega)
theorem plusN_lt {f : Nat} {a b : List Nat} (ha : ∀ x ∈ a, x < 256) (hb : ∀ x ∈ b, x < 256) : ∀ x ∈ plusN a f b, x < 256 := by
  intro x h
  obtain ⟨k, hk, rfl⟩ := List.mem_iff_getElem.1 h
  simp only [plusN, List.getElem_zipWith]
  exact Nat.xor_lt_two_pow (n := 8) (ha _ (List.getElem_mem _)) (gmul_lt (hb _ (List.getElem_mem _)) (by omega))

set_option maxRecDepth 20000 in
set_option maxHeartbeats 1000000 in
theorem xor_i (a b : ByteArray) (w : World) (hs : a.size ≤ b.size) (hb : b.size ≤ 2097152) :
    Calls Tryz.prog 117 #[.string a, .string b] w fun e w' => e = .returned (.string (strN (xorN (bts a) (bts b)))) ∧ Below w.heap.size w w' := by
  obtain ⟨c, wb, hcv, hbuf, hb0, hwz⟩ := buf_of_str w a
  have hl := bts_len a
  have hl' := bts_len b
  have hxl : (xorN (bts a) (bts b)).length = (bts a).length := xorN_len (by omega)
  go_enter Tryz.func117, Tryz.ntmps117
  go_wp2
  go_loopw [11] (fun i wr => ∃ k : Nat, k ≤ a.size ∧ i = .int .i64 k ∧ Below w.heap.size w wr ∧ wr.heap.size = w.heap.size + 1 ∧ Buf wr w.heap.size (updP (bts a) (xorN (bts a) (bts b)) k)) (fun i _ => a.size - (intOf i).toNat)
  case atStart => exact ⟨0, by omega, rfl, hb0, hwz, by rw [upd_zero]; exact hbuf⟩
  case round =>
    obtain ⟨k, hk, rfl, hbw, hz, HB⟩ := hrel
    by_cases hlt : k < a.size
    · have g1 := bts_get hlt
      have g2 := bts_get (s := b) (k := k) (by omega)
      have hu := upd_get (k := k) hxl (by omega)
      rw [g1] at hu
      obtain ⟨p1, p2⟩ := HB k _ hu
      have HS := Lib.hid (HB.set (a[k].toNat ^^^ b[k].toNat) hu)
      rw [upd_set hxl (xorN_get g1 g2)] at HS
      have hx := xor_u8P a[k].toNat b[k].toNat (UInt8.toNat_lt _) (UInt8.toNat_lt _)
      clear HB hu g1 g2
      have hkb : k < b.size := by omega
      go_wp2_with (fail)
      have q1 := (show ({ wr with drawn := wr.drawn + 1 } : World).cell? _ = _ from p1)
      have q2 := (show ({ wr with drawn := wr.drawn + 1 } : World).frozen? _ = _ from p2)
      go_still_tail 9, (by kernel_rfl)
      go_wp2
      go_roundw
      case rel => exact ⟨k + 1, by omega, by go_num, (by repeat (first | exact Below.refl _ _ | refine Below.alloc ?_ (by first | omega | (simp; done) | (simp; omega)) _ | apply Below.drew | apply below_drewN | refine Below.setCell ?_ (by first | omega | (simp; done) | (simp; omega)) _ | refine Below.trans ?_ (Below.mono (by assumption) (by first | omega | (simp; done) | (simp; omega))))), by simpa using hz, HS.out⟩
      case measure => simp [intOf]; omega
    · have hst := HB.str (n := a.size) (c := c) (by rw [upd_len hxl]; omega)
      rw [upd_end hxl (by omega)] at hst
      go_wp2
      go_ret
      exact ⟨rfl, (by repeat (first | exact Below.refl _ _ | refine Below.alloc ?_ (by first | omega | (simp; done) | (simp; omega)) _ | apply Below.drew | apply below_drewN | refine Below.setCell ?_ (by first | omega | (simp; done) | (simp; omega)) _ | refine Below.trans ?_ (Below.mono (by assumption) (by first | omega | (simp; done) | (simp; omega)))))⟩

theorem wrap_u8_nat (x : Nat) (h : x < 256) : (x : Int) % 256 = x := by omega
theorem still_cP {P : Program} {f : FuncId} {args : Array Value} {w : World} {v : Value} (h : Calls P f args w fun e w' => e = .returned v ∧ w = w') : Calls P f args w fun e w' => e = .returned v ∧ w' = w :=
  h.mono fun _ _ ⟨a, b⟩ => ⟨a, b.symm⟩
end Go.Proofs.YtddihmpiaemadaaGreatDoor
namespace Go.Proofs.YtddihmpiaemadaaGreatDoor
set_option linter.unusedVariables false
set_option linter.unusedSimpArgs false
open Go.RowKit
set_option maxRecDepth 20000 in
set_option maxHeartbeats 1000000 in
theorem scaled_i (s : ByteArray) (x : Int) (w : World) (hs : s.size ≤ 2097152) (hx : -9223372036854775808 ≤ x ∧ x ≤ 9223372036854775807) :
    Calls Tryz.prog 120 #[.string s, .int .i64 x] w fun e w' => e = .returned (.string (strN (scN (gpow (m255 x)) (bts s)))) ∧ Below w.heap.size w w' := by
  obtain ⟨wb, hmk, hbuf, hb0, hwz⟩ := buf_made w s.size (by omega)
  have hl := bts_len s
  have hgl := gpow_lt (m255 x)
  go_enter Tryz.func120, Tryz.ntmps120
  go_wp2_with (go_at_call 119; refine (gpow_i x w hx).mono ?_; rintro e w1 ⟨rfl, rfl⟩)
  generalize hf : gpow (m255 x) = f at *
  have hxl : (scN f (bts s)).length = (List.replicate s.size 0).length := by rw [scN_len, hl]; simp
  go_loopw [15] (fun i wr => ∃ k : Nat, k ≤ s.size ∧ i = .int .i64 k ∧ Below w.heap.size w wr ∧ wr.heap.size = w.heap.size + 1 ∧ Buf wr w.heap.size (updP (List.replicate s.size 0) (scN f (bts s)) k)) (fun i _ => s.size - (intOf i).toNat)
  case atStart => exact ⟨0, by omega, rfl, hb0, hwz, by rw [upd_zero]; exact hbuf⟩
  case round =>
    obtain ⟨k, hk, rfl, hbw, hz, HB⟩ := hrel
    by_cases hlt : k < s.size
    · have g1 := bts_get hlt
      have hu := upd_get (k := k) hxl (by simpa using hlt)
      rw [List.getElem?_replicate, if_pos hlt] at hu
      obtain ⟨p1, p2⟩ := HB k _ hu
      have HS := Lib.hid (HB.set (gmul s[k].toNat f 0) hu)
      rw [upd_set hxl (scN_get g1)] at HS
      have hgm := gmul_lt (b := f) (acc := 0) (UInt8.toNat_lt s[k]) (by omega)
      have hwr := wrap_u8_nat _ hgm
      clear HB hu g1
      have hbk := UInt8.toNat_lt s[k]
      have HG := fun w => gmul_i s[k].toNat f w (UInt8.toNat_lt s[k]) hgl
      generalize gmul s[k].toNat f 0 = y at *
      go_wp2_with (go_at_call 155; refine (HG _).mono ?_; rintro e w1 ⟨rfl, rfl⟩)
      go_roundw
      case rel => exact ⟨k + 1, by omega, by go_num, (by repeat (first | exact Below.refl _ _ | refine Below.alloc ?_ (by first | omega | (simp; done) | (simp; omega)) _ | apply Below.drew | apply below_drewN | refine Below.setCell ?_ (by first | omega | (simp; done) | (simp; omega)) _ | refine Below.trans ?_ (Below.mono (by assumption) (by first | omega | (simp; done) | (simp; omega))))), by simpa using hz, HS.out⟩
      case measure => simp [intOf]; omega
    · have hst := HB.str (n := s.size) (c := s.size) (by rw [upd_len hxl]; simp)
      rw [upd_end hxl (by simp; omega)] at hst
      go_wp2
      go_ret
      rw [hf]
      exact ⟨rfl, (by repeat (first | exact Below.refl _ _ | refine Below.alloc ?_ (by first | omega | (simp; done) | (simp; omega)) _ | apply Below.drew | apply below_drewN | refine Below.setCell ?_ (by first | omega | (simp; done) | (simp; omega)) _ | refine Below.trans ?_ (Below.mono (by assumption) (by first | omega | (simp; done) | (simp; omega)))))⟩
end Go.Proofs.YtddihmpiaemadaaGreatDoor
namespace Go.Proofs.YtddihmpiaemadaaGreatDoor
set_option linter.unusedVariables false
set_option linter.unusedSimpArgs false
open Go.RowKit

/-- a slice that reads as the strings l -/
def StrL (w : World) (v : Value) (l : List ByteArray) : Prop := ∃ A c, v = .slice A l.length c ∧ (l = [] ∨ ∃ g, A = some ⟨g, 0, none⟩ ∧ g < w.heap.size ∧ ∀ k s, l[k]? = some s → w.cell? ⟨g, k, none⟩ = some (.string s))
theorem StrL.below {w w' : World} {v : Value} {l : List ByteArray} {K : Nat} (h : StrL w v l) (hb : Below K w w') (hK : w.heap.size ≤ K) : StrL w' v l := by
  obtain ⟨A, c, rfl, h⟩ := h
  refine ⟨A, c, rfl, ?_⟩
  rcases h with h | ⟨g, rfl, hg, hc⟩
  · exact .inl h
  · exact .inr ⟨g, rfl, Nat.lt_of_lt_of_le hg hb.size, fun k s hk => (hb.cell (p := ⟨g, k, none⟩) (by show g < K; omega)).trans (hc k s hk)⟩
theorem StrL.chg {B E : Nat} {w w' : World} {v : Value} {l : List ByteArray} (h : StrL w v l) (hb : Chg B E w w') (hB : w.heap.size ≤ B) : StrL w' v l :=
  h.below ⟨hb.os, hb.tape, hb.output, hb.size, fun k hk => hb.block k hk (by omega)⟩ (Nat.le_refl _)
def idxN (n : Nat) : Nat → List ByteArray → Int
  | _, [] => -1
  | k, s :: r => if s.size = n then idxN n (k + 1) r else k
theorem idxN_all (n k : Nat) (l : List ByteArray) : decide (0 ≤ idxN n k l) = !(l.all fun s => decide (s.size = n)) := by
  induction l generalizing k with
  | nil => rfl
  | cons s r ih =>
    unfold idxN
    by_cases h : s.size = n
    · rw [if_pos h, ih, List.all_cons, decide_eq_true h, Bool.true_and]
    · rw [if_neg h, List.all_cons, decide_eq_false h]; simp
def sizesAre (n : Nat) (l : List ByteArray) : Bool := l.all fun s => decide (s.size = n)
/-- these strings are a group of strings of size n -/
def groupB (l : List ByteArray) : Bool := match l with
  | [] => false
  | s :: _ => decide (l.length ≤ 128) && (decide (1 ≤ s.size) && decide (s.size ≤ 64)) && sizesAre s.size l
theorem idx_yes {n k : Nat} {l : List ByteArray} {s : ByteArray} (hs : l[k]? = some s) (H : Hid (idxN n 0 l = idxN n k (l.drop k))) (h : s.size = n) : Hid (idxN n 0 l = idxN n (k + 1) (l.drop (k + 1))) := by
  obtain ⟨hk, rfl⟩ := List.getElem?_eq_some_iff.1 hs
  exact Lib.hid (by rw [H.out, List.drop_eq_getElem_cons hk, idxN, if_pos h])
theorem idx_no {n k : Nat} {l : List ByteArray} {s : ByteArray} (hs : l[k]? = some s) (H : Hid (idxN n 0 l = idxN n k (l.drop k))) (h : ¬ s.size = n) : idxN n 0 l = k := by
  obtain ⟨hk, rfl⟩ := List.getElem?_eq_some_iff.1 hs
  rw [H.out, List.drop_eq_getElem_cons hk, idxN, if_neg h]
end Go.Proofs.YtddihmpiaemadaaGreatDoor
namespace Go.Proofs.YtddihmpiaemadaaGreatDoor
set_option linter.unusedVariables false
set_option linter.unusedSimpArgs false
open Go.RowKit

theorem groupB_long {l : List ByteArray} (h : 128 < l.length) : groupB l = false := by
  cases l with
  | nil => rfl
  | cons s r => unfold groupB; rw [decide_eq_false (by omega)]; rfl
theorem groupB_at {l : List ByteArray} {s : ByteArray} (h : l[0]? = some s) (h2 : l.length ≤ 128) : groupB l = ((decide (1 ≤ s.size) && decide (s.size ≤ 64)) && sizesAre s.size l) := by
  cases l with
  | nil => cases h
  | cons s' r =>
    obtain rfl : s' = s := by simpa using h
    unfold groupB; rw [decide_eq_true h2]; simp only [Bool.true_and]
theorem groupB_size {l : List ByteArray} (h : groupB l = true) : ∃ s, l[0]? = some s ∧ 1 ≤ s.size ∧ s.size ≤ 64 ∧ 1 ≤ l.length ∧ l.length ≤ 128 ∧ ∀ t ∈ l, t.size = s.size := by
  cases l with
  | nil => cases h
  | cons s r =>
    unfold groupB at h
    simp only [Bool.and_eq_true, decide_eq_true_eq] at h
    refine ⟨s, rfl, h.1.2.1, h.1.2.2, by simp, h.1.1, ?_⟩
    have := h.2
    unfold sizesAre at this
    rw [List.all_eq_true] at this
    intro t ht
    exact of_decide_eq_true (this t ht)
end Go.Proofs.YtddihmpiaemadaaGreatDoor
