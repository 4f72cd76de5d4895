/- Inverses, impl and spec: the walks; unscaled. -/
import Derived.Test.YtkdadaocbfbndaaScaled
import Derived.Test.YtkdadaocbfbndaaWord
import Derived.Test.YtkdadaocbfbndaaGroup2
namespace Go.Proofs.Ytkdadaocbfbndaa
set_option linter.unusedVariables false
open Go.RowKit
def invG (a : Nat) : Nat → Nat → Nat
  | _, 0 => 0
  | x, n + 1 => if (gmul a x 0 == 1) = true then x else invG a (x + 1) n
def invF (a : Nat) : Nat := invG a 1 255
theorem invG_lt {a x n : Nat} (h : x + n ≤ 256) : invG a x n < 256 := by
  induction n generalizing x with
  | zero => unfold invG; omega
  | succ n ih =>
    unfold invG
    split
    · omega
    · exact ih (by omega)
theorem inv_lt (a : Nat) : invF a < 256 := invG_lt (by omega)
theorem in_yes {a x X : Nat} (hx : x < 256) (H : Hid (X = invG a x (256 - x))) (h : (gmul a x 0 == 1) = true) : X = x := by
  rw [H.out, show 256 - x = (256 - (x + 1)) + 1 by omega, invG, if_pos h]
theorem in_no {a x X : Nat} (hx : x < 256) (H : Hid (X = invG a x (256 - x))) (h : (gmul a x 0 == 1) = false) : Hid (X = invG a (x + 1) (256 - (x + 1))) :=
  Lib.hid (by rw [H.out, show 256 - x = (256 - (x + 1)) + 1 by omega, invG, if_neg (by rw [h]; decide)])
theorem in_end {a x X : Nat} (hx : 256 ≤ x) (H : Hid (X = invG a x (256 - x))) : X = 0 := by
  rw [H.out, show 256 - x = 0 by omega, invG]
set_option maxRecDepth 20000 in
set_option maxHeartbeats 1000000 in
theorem inv_s (a : Nat) (w : World) (ha : a < 256) : Calls Try.prog 52 #[.int .i64 a] w fun e w' => e = .returned (.int .i64 (invF a)) ∧ w = w' := by
  go_enter Try.func52, Try.ntmps52
  go_wp2
  go_loop [3] (fun i => ∃ x : Nat, 1 ≤ x ∧ x ≤ 256 ∧ i = .int .i64 x ∧ Hid (invF a = invG a x (256 - x))) (fun i => 256 - (intOf i).toNat)
  case atStart => exact ⟨1, by omega, by omega, rfl, Lib.hid rfl⟩
  case round =>
    obtain ⟨x, hx1, hx, rfl, HK⟩ := hrel
    by_cases hlt : x < 256
    · have HG := Lib.hid (gmul_s a x w ha hlt)
      cases hc : gmul a x 0 == 1
      · have HN := in_no hlt HK hc
        have hd : ((gmul a x 0 : Nat) : Int) == 1 → False := by intro h; rw [beq_eq_false_iff_ne] at hc; exact hc (by have := of_decide_eq_true h; omega)
        have hd' : (((gmul a x 0 : Nat) : Int) == 1) = false := by simpa using hd
        generalize gmul a x 0 = y at *
        go_wp2_with (go_at_call 59; refine HG.out.mono ?_; rintro e w1 ⟨rfl, rfl⟩)
        go_round
        case rel => exact ⟨x + 1, by omega, by omega, by go_num, HN⟩
        case measure => simp [intOf]; omega
      · have HN := Lib.hid (in_yes hlt HK hc)
        have hd' : (((gmul a x 0 : Nat) : Int) == 1) = true := by rw [beq_iff_eq] at hc ⊢; omega
        generalize gmul a x 0 = y at *
        go_wp2_with (go_at_call 59; refine HG.out.mono ?_; rintro e w1 ⟨rfl, rfl⟩)
        go_ret
        exact ⟨ret_int (by rw [HN.out]), rfl⟩
    · have HN := Lib.hid (in_end (by omega) HK)
      go_wp2
      go_ret
      exact ⟨ret_int (by rw [HN.out]; rfl), rfl⟩
set_option maxRecDepth 20000 in
set_option maxHeartbeats 1000000 in
theorem inv_i (a : Nat) (w : World) (ha : a < 256) : Calls Try.prog 68 #[.int .i64 a] w fun e w' => e = .returned (.int .i64 (invF a)) ∧ w = w' := by
  have hb : inB a 0 255 = true := inB_t (by omega)
  go_enter Try.func68, Try.ntmps68
  go_wp2
  go_loop [3] (fun i => ∃ x : Nat, 1 ≤ x ∧ x ≤ 256 ∧ i = .int .i64 x ∧ Hid (invF a = invG a x (256 - x))) (fun i => 256 - (intOf i).toNat)
  case atStart => exact ⟨1, by omega, by omega, rfl, Lib.hid rfl⟩
  case round =>
    obtain ⟨x, hx1, hx, rfl, HK⟩ := hrel
    by_cases hlt : x < 256
    · have HG := Lib.hid (gmul_i a x w ha hlt)
      cases hc : gmul a x 0 == 1
      · have HN := in_no hlt HK hc
        have hd' : (((gmul a x 0 : Nat) : Int) == 1) = false := by rw [beq_eq_false_iff_ne] at hc ⊢; omega
        generalize gmul a x 0 = y at *
        go_wp2_with (first | (go_at_call 62; refine HG.out.mono ?_; rintro e w1 ⟨rfl, rfl⟩) | (go_at_call 40; refine (within_i _ _ _ _).mono ?_; rintro e w1 ⟨rfl, rfl⟩) | go_in)
        go_round
        case rel => exact ⟨x + 1, by omega, by omega, by go_num, HN⟩
        case measure => simp [intOf]; omega
      · have HN := Lib.hid (in_yes hlt HK hc)
        have hd' : (((gmul a x 0 : Nat) : Int) == 1) = true := by rw [beq_iff_eq] at hc ⊢; omega
        generalize gmul a x 0 = y at *
        go_wp2_with (first | (go_at_call 62; refine HG.out.mono ?_; rintro e w1 ⟨rfl, rfl⟩) | (go_at_call 40; refine (within_i _ _ _ _).mono ?_; rintro e w1 ⟨rfl, rfl⟩) | go_in)
        go_ret
        exact ⟨ret_int (by rw [HN.out]), rfl⟩
    · have HN := Lib.hid (in_end (by omega) HK)
      go_wp2
      go_ret
      exact ⟨ret_int (by rw [HN.out]; rfl), rfl⟩
set_option maxRecDepth 20000 in
set_option maxRecDepth 20000 in
set_option maxHeartbeats 1000000 in
theorem unscaled_i (s : ByteArray) (a : Nat) (w : World) (hs : s.size ≤ 2097152) (ha : a < 256) :
    Calls Try.prog 54 #[.string s, .int .i64 a] w fun e w' => e = .returned (.string (strN (scN (invF a) (bts s)))) ∧ Below w.heap.size w w' := by
  obtain ⟨wb, hmk, hbuf, hb0, hwz⟩ := buf_made w s.size (by omega)
  have hl := bts_len s
  have hgl := inv_lt a
  have HIV := Lib.hid (inv_i a w ha)
  go_enter Try.func54, Try.ntmps54
  go_wp2_with (go_at_call 68; refine HIV.out.mono ?_; rintro e w1 ⟨rfl, rfl⟩)
  generalize hf : invF a = f at *
  have hxl : (scN f (bts s)).length = (List.replicate s.size 0).length := by rw [scN_len, hl]; simp
  go_loopw [15] (fun i wr => ∃ k : Nat, k ≤ s.size ∧ i = .int .i64 k ∧ Below w.heap.size w wr ∧ wr.heap.size = w.heap.size + 1 ∧ Buf wr w.heap.size (upd (List.replicate s.size 0) (scN f (bts s)) k)) (fun i _ => s.size - (intOf i).toNat)
  case atStart => exact ⟨0, by omega, rfl, hb0, hwz, by rw [upd_zero]; exact hbuf⟩
  case round =>
    obtain ⟨k, hk, rfl, hbw, hz, HB⟩ := hrel
    by_cases hlt : k < s.size
    · have g1 := bts_get hlt
      have hu := upd_get (k := k) hxl (by simpa using hlt)
      rw [List.getElem?_replicate, if_pos hlt] at hu
      obtain ⟨p1, p2⟩ := HB k _ hu
      have HS := Lib.hid (HB.set (gmul s[k].toNat f 0) hu)
      rw [upd_set hxl (scN_get g1)] at HS
      have hgm := gmul_lt (b := f) (acc := 0) (UInt8.toNat_lt s[k]) (by omega)
      have hwr := wrap_u8_nat _ hgm
      clear HB hu g1
      have hbk := UInt8.toNat_lt s[k]
      have HG := fun w => gmul_i s[k].toNat f w (UInt8.toNat_lt s[k]) hgl
      generalize gmul s[k].toNat f 0 = y at *
      go_wp2_with (go_at_call 62; refine (HG _).mono ?_; rintro e w1 ⟨rfl, rfl⟩)
      go_roundw
      case rel => exact ⟨k + 1, by omega, by go_num, (by repeat (first | exact Below.refl _ _ | refine Below.alloc ?_ (by first | omega | (simp; done) | (simp; omega)) _ | apply Below.drew | apply below_drewN | refine Below.setCell ?_ (by first | omega | (simp; done) | (simp; omega)) _ | refine Below.trans ?_ (Below.mono (by assumption) (by first | omega | (simp; done) | (simp; omega))))), by simpa using hz, HS.out⟩
      case measure => simp [intOf]; omega
    · have hst := HB.str (n := s.size) (c := s.size) (by rw [upd_len hxl]; simp)
      rw [upd_end hxl (by simp; omega)] at hst
      go_wp2
      go_ret
      rw [hf]
      exact ⟨rfl, (by repeat (first | exact Below.refl _ _ | refine Below.alloc ?_ (by first | omega | (simp; done) | (simp; omega)) _ | apply Below.drew | apply below_drewN | refine Below.setCell ?_ (by first | omega | (simp; done) | (simp; omega)) _ | refine Below.trans ?_ (Below.mono (by assumption) (by first | omega | (simp; done) | (simp; omega)))))⟩
end Go.Proofs.Ytkdadaocbfbndaa
