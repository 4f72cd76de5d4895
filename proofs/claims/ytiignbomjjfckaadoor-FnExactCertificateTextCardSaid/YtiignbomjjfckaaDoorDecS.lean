/- Numbers in words, the reference: the walk. -/
import Derived.Test.YtiignbomjjfckaaDoorTxtP
import Derived.Test.YtiignbomjjfckaaDoorWord
import Derived.Deep.RegionLaw
import Derived.Laws.BytesArg
namespace Go.Proofs.YtiignbomjjfckaaDoor
set_option linter.unusedVariables false
set_option linter.unusedSimpArgs false
open Go.RowKit
theorem convAt (w : World) (g : Nat) (x : Int) (h : w.cell? ⟨g, 0, none⟩ = some (.int .u8 x)) : (convert 44 9 (.slice (some ⟨g, 0, none⟩) 1 1)).run Tryd.prog w = .ok (.string (strOfNums [x])) w :=
  run_convert_bytes_arg _ 44 5 Tryd.underlying44 Tryd.underlying5 _ 0 1 1 [x] rfl (fun i hi => by
    obtain rfl : i = 0 := by omega
    simpa using h) 9 Tryd.underlying9
theorem conv1n (w : World) (x : Int) : (convert 44 9 (.slice (some ⟨w.heap.size, 0, none⟩) 1 1)).run Tryd.prog (w.alloc (.cells #[.int .u8 x] 5)) = .ok (.string (strOfNums [x])) (w.alloc (.cells #[.int .u8 x] 5)) := convAt _ _ x (by simp)
theorem num1 {n : Nat} (h : n < 10) : strOfNums [48 + (n : Int)] = strB [UInt8.ofNat (48 + n)] := by
  apply ByteArray.ext
  apply Array.ext'
  rw [strOfNums_data]
  simp [strB]
  rcases (by omega : n = 0 ∨ n = 1 ∨ n = 2 ∨ n = 3 ∨ n = 4 ∨ n = 5 ∨ n = 6 ∨ n = 7 ∨ n = 8 ∨ n = 9) with rfl | rfl | rfl | rfl | rfl | rfl | rfl | rfl | rfl | rfl <;> rfl
set_option maxRecDepth 20000 in
set_option maxHeartbeats 2000000 in
theorem dec_s (n : Nat) : ∀ (w : World), n ≤ 65535 → Calls Tryd.prog 34 #[.int .i64 n] w fun e w' => e = .returned (.string (strB (Lib.decDigits n))) ∧ Below w.heap.size w w' := by
  induction n using Nat.strongRecOn with
  | _ n ih =>
    intro w hn
    have hcv := conv1n
    have hn0 : decide ((n : Int) < 0) = false := by simp
    by_cases h10 : n < 10
    · have HF := Lib.hid (Lib.decDigits_one h10)
      have hn1 : decide ((n : Int) < 10) = true := by simp; omega
      have HN := Lib.hid (num1 h10)
      clear ih
      go_enter Tryd.func34, Tryd.ntmps34
      go_wp2
      go_ret
      exact ⟨(show Ending.returned (Value.string (strOfNums [48 + (n : Int)])) = _ by rw [HF.out, HN.out]), (by repeat (first | exact Below.refl _ _ | refine Below.alloc ?_ (by first | omega | (simp; done) | (simp; omega)) _ | apply Below.drew | apply below_drewN | refine Below.setCell ?_ (by first | omega | (simp; done) | (simp; omega)) _ | refine Below.trans ?_ (Below.mono (by assumption) (by first | omega | (simp; done) | (simp; omega)))))⟩
    · have HF : Hid (Lib.decDigits n = Lib.decDigits (n / 10) ++ [UInt8.ofNat (48 + n % 10)]) := Lib.hid (by rw [Lib.decDigits, dif_neg h10])
      have hn1 : decide ((n : Int) < 10) = false := by simp; omega
      obtain ⟨m, hm⟩ : ∃ m, m = n % 10 := ⟨_, rfl⟩
      obtain ⟨q, hq⟩ : ∃ q, q = n / 10 := ⟨_, rfl⟩
      rw [← hm, ← hq] at HF
      have hm10 : m < 10 := by omega
      have hw1 : IntKind.i64.wrap ((n : Int) / 10) = (q : Int) := by rw [IntKind.wrap_i64]; omega
      have hw2 : (n : Int).tmod 10 = (m : Int) := by rw [Int.tmod_eq_emod_of_nonneg (by omega)]; omega
      have hw3 : IntKind.i64.wrap (48 + (m : Int)) = 48 + (m : Int) := by rw [IntKind.wrap_i64]; omega
      have hw4 : IntKind.u8.wrap (48 + (m : Int)) = 48 + (m : Int) := by unfold IntKind.wrap; simp [IntKind.bits, IntKind.signed]; omega
      have hsz : ¬ (9223372036854775807 < (strB (Lib.decDigits q)).size + (strOfNums [48 + (m : Int)]).size) := by
        have h1 := Lib.itoa_length_le (q : Int) (by omega) (by omega)
        rw [Lib.itoa_nonneg] at h1
        rw [strB_size, strOfNums_size]; simp; omega
      have HN := Lib.hid (num1 hm10)
      have IH := Lib.hid (fun w' => ih q (by omega) w' (by omega))
      clear ih hm hq
      have IHa : Hid (Calls Tryd.prog 34 #[.int .i64 q] ((w.alloc (.cells #[.int .u8 (48 + (m : Int))] 5)).drew) fun e w' => e = .returned (.string (strB (Lib.decDigits q))) ∧ Below ((w.alloc (.cells #[.int .u8 (48 + (m : Int))] 5)).drew).heap.size ((w.alloc (.cells #[.int .u8 (48 + (m : Int))] 5)).drew) w') := Lib.hid (IH.out _)
      have IHb : Hid (Calls Tryd.prog 34 #[.int .i64 q] w.drew fun e w' => e = .returned (.string (strB (Lib.decDigits q))) ∧ Below w.drew.heap.size w.drew w') := Lib.hid (IH.out _)
      have CA : Hid (∀ w1, Below ((w.alloc (.cells #[.int .u8 (48 + (m : Int))] 5)).drew).heap.size ((w.alloc (.cells #[.int .u8 (48 + (m : Int))] 5)).drew) w1 → (convert 44 9 (.slice (some ⟨w.heap.size, 0, none⟩) 1 1)).run Tryd.prog w1 = .ok (.string (strOfNums [48 + (m : Int)])) w1) := Lib.hid (fun w1 hb => convAt w1 _ _ ((hb.cell (p := ⟨w.heap.size, 0, none⟩) (by show w.heap.size < (w.alloc _).heap.size; simp)).trans (by show (w.alloc _).cell? _ = _; simp)))
      have HBA : Hid (∀ w1, Below ((w.alloc (.cells #[.int .u8 (48 + (m : Int))] 5)).drew).heap.size ((w.alloc (.cells #[.int .u8 (48 + (m : Int))] 5)).drew) w1 → Below w.heap.size w w1) := Lib.hid (fun w1 hb => (Below.drew (Below.alloc (Below.refl _ _) (Nat.le_refl _) _)).trans (hb.mono (by show w.heap.size ≤ (w.alloc _).heap.size; simp)))
      have HBB : Hid (∀ w1, Below w.drew.heap.size w.drew w1 → Below w.heap.size w w1) := Lib.hid (fun w1 hb => ((Below.refl _ _).drew).trans hb)
      have hcvd : (convert 44 9 (.slice (some ⟨w.heap.size, 0, none⟩) 1 1)).run Tryd.prog ((w.alloc (.cells #[.int .u8 (48 + (m : Int))] 5)).drew) = .ok (.string (strOfNums [48 + (m : Int)])) ((w.alloc (.cells #[.int .u8 (48 + (m : Int))] 5)).drew) := convAt _ _ _ (by show (w.alloc _).cell? _ = _; simp)
      clear IH
      go_enter Tryd.func34, Tryd.ntmps34
      go_wp2_with (fail)
      go_region_law (go_simp; first | (go_at_call 34; with_reducible refine Calls.mono IHa.out ?_; rintro e w1 ⟨rfl, hb1⟩; have hcv1 := CA.out w1 hb1; have hB1 := HBA.out w1 hb1; have s1 := hB1.size; clear hb1; dsimp only) | (go_at_call 34; with_reducible refine Calls.mono IHb.out ?_; rintro e w1 ⟨rfl, hb1⟩; have hB1 := HBB.out w1 hb1; have s1 := hB1.size; clear hb1; dsimp only))
      all_goals go_wp2
      all_goals go_ret
      all_goals refine ⟨(show Ending.returned (Value.string (strB (Lib.decDigits q) ++ strOfNums [48 + (m : Int)])) = _ by rw [HF.out, ← strB_app, ← HN.out]), ?_⟩
      all_goals first | exact hB1 | exact hB1.alloc s1 _
theorem decI_s (x : Int) (w : World) (h : 0 ≤ x ∧ x ≤ 65535) : Calls Tryd.prog 34 #[.int .i64 x] w fun e w' => e = .returned (.string (strB (Lib.itoa x))) ∧ Below w.heap.size w w' := by
  obtain ⟨n, rfl⟩ := Int.eq_ofNat_of_zero_le h.1
  rw [Lib.itoa_nonneg]
  exact dec_s n w (by omega)
end Go.Proofs.YtiignbomjjfckaaDoor
