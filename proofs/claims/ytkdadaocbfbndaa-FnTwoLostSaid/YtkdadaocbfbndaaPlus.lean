/- l23Plus: the walk. -/
import Derived.Test.YtkdadaocbfbndaaBytes
namespace Go.Proofs.Ytkdadaocbfbndaa
set_option linter.unusedVariables false
open Go.RowKit
set_option maxRecDepth 20000 in
set_option maxHeartbeats 1000000 in
theorem plus_s (g c f : Nat) (l : List Nat) (s : ByteArray) (w : World) (hg : g < w.heap.size) (hB : Buf w g l) (hl1 : l.length ≤ s.size) (hs : s.size ≤ 2097152) (hf : f < 256) (hlb : ∀ x ∈ l, x < 256) :
    Calls Try.prog 37 #[.slice (some ⟨g, 0, none⟩) l.length c, .int .i64 f, .string s] w fun e w' => e = .returned (.tuple #[]) ∧ Buf w' g (plusN l f (bts s)) ∧ Chg g (g + 1) w w' ∧ w'.heap.size = w.heap.size := by
  have hl := bts_len s
  have hxl : (plusN l f (bts s)).length = l.length := plusN_len (by omega)
  go_enter Try.func37, Try.ntmps37
  go_wp2
  go_loopw [6] (fun i wr => ∃ k : Nat, k ≤ l.length ∧ i = .int .i64 k ∧ Chg g (g + 1) w wr ∧ wr.heap.size = w.heap.size ∧ Buf wr g (upd l (plusN l f (bts s)) k)) (fun i _ => l.length - (intOf i).toNat)
  case atStart => exact ⟨0, by omega, rfl, Chg.of_below (Below.refl _ _), rfl, by rw [upd_zero]; exact hB⟩
  case round =>
    obtain ⟨k, hk, rfl, hch, hz, HB⟩ := hrel
    by_cases hlt : k < l.length
    · have g1 := bts_get (s := s) (k := k) (by omega)
      obtain ⟨y, hy⟩ : ∃ y, l[k]? = some y := ⟨l[k], List.getElem?_eq_getElem hlt⟩
      have hyb := hlb y (List.mem_of_getElem? hy)
      have hu := upd_get (k := k) hxl hlt
      rw [hy] at hu
      obtain ⟨p1, p2⟩ := HB k _ hu
      have HS := Lib.hid (HB.set (y ^^^ gmul s[k].toNat f 0) hu)
      rw [upd_set hxl (plusN_get hy g1)] at HS
      have hgm := gmul_lt (b := f) (acc := 0) (UInt8.toNat_lt s[k]) (by omega)
      have hwr := wrap_u8_nat _ hgm
      have hx := xor_u8 y _ hyb hgm
      have hkb : k < s.size := by omega
      clear HB hu g1 hy
      have hbk := UInt8.toNat_lt s[k]
      have hww : IntKind.i64.wrap (s[k].toNat : Int) = s[k].toNat := by rw [IntKind.wrap_i64]; omega
      have hwz : IntKind.u8.wrap ((gmul s[k].toNat f 0 : Nat) : Int) = (gmul s[k].toNat f 0 : Nat) := by rw [IntKind.wrap_u8]; omega
      have HG := fun w => still_c (gmul_s s[k].toNat f w hbk hf)
      generalize gmul s[k].toNat f 0 = z at *
      go_wp2_with (fail)
      have q1 := (show ({ wr with drawn := wr.drawn + 1 } : World).cell? _ = _ from p1)
      have q2 := (show ({ wr with drawn := wr.drawn + 1 } : World).frozen? _ = _ from p2)
      go_still_tail 13, (by kernel_rfl)
      still_call (HG _)
      repeat still_step
      refine wpStill_nil ?_
      go_wp2
      go_roundw
      case rel => exact ⟨k + 1, by omega, by go_num, ⟨hch.os, hch.tape, hch.output, by have := hch.size; simpa using this, fun i hi hne => (Below.heap_setCell _ _ _ i (by rintro rfl; exact hne ⟨Nat.le_refl _, by simp⟩)).trans (hch.block i hi hne)⟩, by simpa using hz, HS.out⟩
      case measure => simp [intOf]; omega
    · go_wp2
      refine bodyPost_end (results_none rfl _ _ _) rfl ?_
      exact ⟨rfl, by rw [upd_end hxl (by omega)] at HB; exact HB, hch, hz⟩
end Go.Proofs.Ytkdadaocbfbndaa
