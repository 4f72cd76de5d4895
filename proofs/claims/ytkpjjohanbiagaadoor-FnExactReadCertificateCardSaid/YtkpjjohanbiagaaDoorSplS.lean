/- A text's words, spec: the walk. -/
import Derived.Test.YtkpjjohanbiagaaDoorNumS
import Derived.Test.YtkpjjohanbiagaaDoorLinB
namespace Go.Proofs.YtkpjjohanbiagaaDoor
set_option linter.unusedVariables false
set_option linter.unusedSimpArgs false
open Go.RowKit
theorem ext_str (s : ByteArray) (a b : Nat) : s.extract a b = strB ((s.data.toList.take b).drop a) := by
  have := strB_extract s.data.toList a b
  rw [strB_data] at this
  rw [this, List.drop_take]
theorem sp_no {s : ByteArray} {c : UInt8} {k a : Nat} (h : k < s.size) (ha : a ≤ k) (hc : s[k] ≠ c) : splitF c ((s.data.toList.take k).drop a) (s.data.toList.drop k) = splitF c ((s.data.toList.take (k + 1)).drop a) (s.data.toList.drop (k + 1)) := by
  rw [drop_at s k h, splitF, if_neg hc, take_snoc s k h, List.drop_append_of_le_length (by rw [List.length_take, data_len]; omega)]
theorem sp_hit {s : ByteArray} {c : UInt8} {k a : Nat} (h : k < s.size) (hc : s[k] = c) : splitF c ((s.data.toList.take k).drop a) (s.data.toList.drop k) = ((s.data.toList.take k).drop a) :: splitF c ((s.data.toList.take (k + 1)).drop (k + 1)) (s.data.toList.drop (k + 1)) := by
  rw [drop_at s k h, splitF, if_pos hc, List.drop_of_length_le (l := s.data.toList.take (k + 1)) (by rw [List.length_take]; omega)]
theorem sp_end {s : ByteArray} {c : UInt8} {a : Nat} : splitF c ((s.data.toList.take s.size).drop a) (s.data.toList.drop s.size) = [(s.data.toList.take s.size).drop a] := by
  rw [List.drop_of_length_le (l := s.data.toList) (i := s.size) (by rw [data_len]; exact Nat.le_refl _), splitF]
set_option maxRecDepth 20000 in
set_option maxHeartbeats 1000000 in
theorem split_s (s : ByteArray) (c : UInt8) (w : World) (hs : s.size ≤ 1048576) :
    Calls Tryd.prog 24 #[.string s, .int .u8 c.toNat] w fun e w' => ∃ v, e = .returned v ∧ StringL w.heap.size w' v ((splitF c [] s.data.toList).map strB) ∧ Below w.heap.size w w' := by
  obtain ⟨i0, hi, hz0, hz1, hz2⟩ := info_parts scell_info
  have HO0 : Hid (StringL w.heap.size (w.alloc (.cells #[] 9)) (.slice (some ⟨w.heap.size, 0, none⟩) 0 0) (([] : List (List UInt8)).map strB)) := Lib.hid (OwnL.of_empty w (Nat.le_refl _))
  go_enter Tryd.func24, Tryd.ntmps24
  go_wp2
  go_loopw [7, 6, 5] (fun i f x wr => ∃ k a : Nat, ∃ l : List (List UInt8), a ≤ k ∧ k ≤ s.size ∧ i = .int .i64 k ∧ f = .int .i64 a ∧ Below w.heap.size w wr ∧ Hid (l.length ≤ k) ∧ Hid (StringL w.heap.size wr x (l.map strB)) ∧ Hid (splitF c [] s.data.toList = l ++ splitF c ((s.data.toList.take k).drop a) (s.data.toList.drop k))) (fun i _ _ _ => s.size - (intOf i).toNat)
  case atStart => exact ⟨0, 0, [], Nat.le_refl _, Nat.zero_le _, rfl, rfl, Below.alloc (Below.refl _ _) (Nat.le_refl _) _, Lib.hid (Nat.zero_le _), HO0, Lib.hid (by simp)⟩
  case round =>
    clear HO0
    obtain ⟨k, a, l, hak, hk, rfl, rfl, hb, HL, HO, HS⟩ := hrel
    have zr := hb.size
    have HX := Lib.hid (ext_str s a k)
    obtain ⟨A, cp, hv, hA⟩ := OwnL.shape HO.out
    rw [List.length_map] at hv
    have hll := HL.out
    generalize hln : l.length = ln at *
    subst hv
    by_cases hlt : k < s.size
    · by_cases hc : s[k] = c
      · have HN := Lib.hid (sp_hit (a := a) hlt hc)
        have hcn : s[k].toNat = c.toNat := by rw [hc]
        clear hc
        go_wp2_with (at_builtin; refine wpList_app1 scell 1 scell_len _ rfl _ _ _ rfl w.heap.size 9 i0 (.string .empty) 16 Tryd.underlying51 hi hz0 hz1 hz2 rfl (by decide) _ (l.map strB) rfl (HO.out.alloc _) wr.heap.size 1 (strB ((s.data.toList.take k).drop a)) rfl ?_ (by simp [scell, Value.oneCell']) (by rw [List.length_map]; omega) (by omega) (by simp; omega) ?_; (· intro j u hu; cases j with | zero => (simp [scell] at hu; subst hu; simp [HX.out]) | succ j => simp [scell] at hu); intro v' w8 how8 hg8)
        have hb8 : Below w.heap.size w w8 := own_grown_below (HO.out.alloc (.cells #[.string (s.extract a k)] 9)) (Below.alloc hb zr _) hg8 (Nat.le_refl _) (by simp; omega)
        go_roundw
        case rel => exact ⟨k + 1, k + 1, l ++ [(s.data.toList.take k).drop a], by omega, by omega, by go_num, by go_num, hb8, Lib.hid (by simp [hln]; omega), Lib.hid (by rw [List.map_append]; exact how8), Lib.hid (by rw [HS.out, HN.out]; simp)⟩
        case measure => simp [intOf]; omega
      · have HN := Lib.hid (sp_no hlt hak hc)
        have hcn : ¬ s[k].toNat = c.toNat := fun e => hc (UInt8.toNat_inj.1 e)
        clear hc
        go_wp2
        go_roundw
        case rel => exact ⟨k + 1, a, l, by omega, by omega, by go_num, rfl, hb, Lib.hid (by omega), HO, Lib.hid (by rw [HS.out, HN.out])⟩
        case measure => simp [intOf]; omega
    · obtain rfl : k = s.size := by omega
      have HN := Lib.hid (sp_end (s := s) (c := c) (a := a))
      go_wp2_with (at_builtin; refine wpList_app1 scell 1 scell_len _ rfl _ _ _ rfl w.heap.size 9 i0 (.string .empty) 16 Tryd.underlying51 hi hz0 hz1 hz2 rfl (by decide) _ (l.map strB) rfl (HO.out.alloc _) wr.heap.size 1 (strB ((s.data.toList.take s.size).drop a)) rfl ?_ (by simp [scell, Value.oneCell']) (by rw [List.length_map]; omega) (by omega) (by simp; omega) ?_; (· intro j u hu; cases j with | zero => (simp [scell] at hu; subst hu; simp [HX.out]) | succ j => simp [scell] at hu); intro v' w8 how8 hg8)
      have hb8 : Below w.heap.size w w8 := own_grown_below (HO.out.alloc (.cells #[.string (s.extract a s.size)] 9)) (Below.alloc hb zr _) hg8 (Nat.le_refl _) (by simp; omega)
      go_ret
      refine ⟨_, rfl, ?_, hb8⟩
      rw [HS.out, HN.out, List.map_append]
      exact how8
end Go.Proofs.YtkpjjohanbiagaaDoor
