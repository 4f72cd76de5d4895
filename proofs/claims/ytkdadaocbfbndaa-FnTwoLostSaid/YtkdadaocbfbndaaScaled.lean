/- scaled: the walk. -/
import Derived.Test.YtkdadaocbfbndaaBytes
namespace Go.Proofs.Ytkdadaocbfbndaa
set_option linter.unusedVariables false
open Go.RowKit
set_option maxRecDepth 20000 in
set_option maxHeartbeats 1000000 in
theorem scaled_i (s : ByteArray) (x : Int) (w : World) (hs : s.size ≤ 2097152) (hx : -9223372036854775808 ≤ x ∧ x ≤ 9223372036854775807) :
    Calls Try.prog 42 #[.string s, .int .i64 x] w fun e w' => e = .returned (.string (strN (scN (gpow (m255 x)) (bts s)))) ∧ Below w.heap.size w w' := by
  obtain ⟨wb, hmk, hbuf, hb0, hwz⟩ := buf_made w s.size (by omega)
  have hl := bts_len s
  have hgl := gpow_lt (m255 x)
  go_enter Try.func42, Try.ntmps42
  go_wp2_with (go_at_call 55; refine (gpow_i x w hx).mono ?_; rintro e w1 ⟨rfl, rfl⟩)
  generalize hf : gpow (m255 x) = f at *
  have hxl : (scN f (bts s)).length = (List.replicate s.size 0).length := by rw [scN_len, hl]; simp
  go_loopw [15] (fun i wr => ∃ k : Nat, k ≤ s.size ∧ i = .int .i64 k ∧ Below w.heap.size w wr ∧ wr.heap.size = w.heap.size + 1 ∧ Buf wr w.heap.size (upd (List.replicate s.size 0) (scN f (bts s)) k)) (fun i _ => s.size - (intOf i).toNat)
  case atStart => exact ⟨0, by omega, rfl, hb0, hwz, by rw [upd_zero]; exact hbuf⟩
  case round =>
    obtain ⟨k, hk, rfl, hbw, hz, HB⟩ := hrel
    by_cases hlt : k < s.size
    · have g1 := bts_get hlt
      have hu := upd_get (k := k) hxl (by simpa using hlt)
      rw [List.getElem?_replicate, if_pos hlt] at hu
      obtain ⟨p1, p2⟩ := HB k _ hu
      have HS := Lib.hid (HB.set (gmul s[k].toNat f 0) hu)
      rw [upd_set hxl (scN_get g1)] at HS
      have hgm := gmul_lt (b := f) (acc := 0) (UInt8.toNat_lt s[k]) (by omega)
      have hwr := wrap_u8_nat _ hgm
      clear HB hu g1
      have hbk := UInt8.toNat_lt s[k]
      have HG := fun w => gmul_i s[k].toNat f w (UInt8.toNat_lt s[k]) hgl
      generalize gmul s[k].toNat f 0 = y at *
      go_wp2_with (go_at_call 62; refine (HG _).mono ?_; rintro e w1 ⟨rfl, rfl⟩)
      go_roundw
      case rel => exact ⟨k + 1, by omega, by go_num, (by repeat (first | exact Below.refl _ _ | refine Below.alloc ?_ (by first | omega | (simp; done) | (simp; omega)) _ | apply Below.drew | apply below_drewN | refine Below.setCell ?_ (by first | omega | (simp; done) | (simp; omega)) _ | refine Below.trans ?_ (Below.mono (by assumption) (by first | omega | (simp; done) | (simp; omega))))), by simpa using hz, HS.out⟩
      case measure => simp [intOf]; omega
    · have hst := HB.str (n := s.size) (c := s.size) (by rw [upd_len hxl]; simp)
      rw [upd_end hxl (by simp; omega)] at hst
      go_wp2
      go_ret
      rw [hf]
      exact ⟨rfl, (by repeat (first | exact Below.refl _ _ | refine Below.alloc ?_ (by first | omega | (simp; done) | (simp; omega)) _ | apply Below.drew | apply below_drewN | refine Below.setCell ?_ (by first | omega | (simp; done) | (simp; omega)) _ | refine Below.trans ?_ (Below.mono (by assumption) (by first | omega | (simp; done) | (simp; omega)))))⟩
end Go.Proofs.Ytkdadaocbfbndaa
