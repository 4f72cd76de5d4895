/- markText: the walk; it computes a function of its number. -/
import Derived.Test.YtkpjjohanbiagaaDoorWord
namespace Go.Proofs.YtkpjjohanbiagaaDoor
set_option linter.unusedVariables false
set_option linter.unusedSimpArgs false
open Go.RowKit

/-- the digits of k, put before out -/
def mtd : Nat → Nat → ByteArray → ByteArray
  | 0, _, out => out
  | f + 1, k, out => if k = 0 then out else mtd f (k / 10) (strOfNums [48 + (k : Int) % 10] ++ out)
def mt (k : Nat) : ByteArray := strOfNums [109] ++ mtd k k .empty
theorem mtd_next {n f k : Nat} {s : ByteArray} (hk : 0 < k) (H : Hid (mtd n n .empty = mtd (f + 1) k s)) : Hid (mtd n n .empty = mtd f (k / 10) (strOfNums [48 + (k : Int) % 10] ++ s)) :=
  Lib.hid (by rw [H.out, mtd, if_neg (by omega)])
theorem mtd_end {n f : Nat} {s : ByteArray} (H : Hid (mtd n n .empty = mtd f 0 s)) : Ending.returned (.string ({ data := #[109] } ++ s)) = .returned (.string (mt n)) := by
  have e : mtd n n .empty = s := by rw [H.out]; cases f <;> simp [mtd]
  unfold mt; rw [e]; rfl
theorem conv1 (w : World) (x : Int) : (convert 35 9 (.slice (some ⟨w.heap.size, 0, none⟩) 1 1)).run Tryd.prog (w.alloc (.cells #[.int .u8 x] 5)) = .ok (.string (strOfNums [x])) (w.alloc (.cells #[.int .u8 x] 5)) :=
  run_convert_bytes_arg _ 35 5 Tryd.underlying35 Tryd.underlying5 _ 0 1 1 [x] rfl (fun i hi => by
    obtain rfl : i = 0 := by omega
    simp) 9 Tryd.underlying9
set_option maxHeartbeats 2000000 in
theorem mark_any (n : Nat) (w : World) (h0 : 1 ≤ n) (h : n ≤ 268435456) :
    Calls Tryd.prog 40 #[.int .i64 n] w fun e w' => e = .returned (.string (mt n)) ∧ Below w.heap.size w w' := by
  have hcv := conv1
  go_enter Tryd.func40, Tryd.ntmps40
  go_wp2
  go_loopw [0, 3] (fun i out wr => ∃ (k f : Nat) (s : ByteArray), k ≤ n ∧ k ≤ f ∧ i = .int .i64 k ∧ out = .string s ∧ s.size + f ≤ n ∧ Below w.heap.size w wr ∧ Hid (mtd n n .empty = mtd f k s)) (fun i _ _ => (intOf i).toNat)
  case atStart => exact ⟨n, n, _, by omega, by omega, rfl, rfl, Nat.le_of_eq (Nat.zero_add n), (by repeat (first | exact Below.refl _ _ | refine Below.alloc ?_ (by first | omega | (simp; done) | (simp; omega)) _ | apply Below.drew | apply below_drewN | refine Below.setCell ?_ (by first | omega | (simp; done) | (simp; omega)) _ | refine Below.trans ?_ (Below.mono (by assumption) (by first | omega | (simp; done) | (simp; omega))))), Lib.hid rfl⟩
  case round =>
    obtain ⟨k, f, s, hk, hf, rfl, rfl, hs, hb, HK⟩ := hrel
    have hz := hb.size
    by_cases hlt : 0 < k
    · have hsa : ∀ x y : ByteArray, (x ++ y).size = x.size + y.size := fun _ _ => ByteArray.size_append
      have hss : ∀ x : Int, (strOfNums [x]).size = 1 := fun x => rfl
      obtain ⟨f', rfl⟩ : ∃ f', f = f' + 1 := ⟨f - 1, by omega⟩
      go_wp2
      go_roundw
      case rel => exact ⟨k / 10, f', strOfNums [48 + (k : Int) % 10] ++ s, by omega, by omega, by go_num, rfl, by rw [hsa, hss]; omega, (by repeat (first | exact Below.refl _ _ | refine Below.alloc ?_ (by first | omega | (simp; done) | (simp; omega)) _ | apply Below.drew | apply below_drewN | refine Below.setCell ?_ (by first | omega | (simp; done) | (simp; omega)) _ | refine Below.trans ?_ (Below.mono (by assumption) (by first | omega | (simp; done) | (simp; omega))))), mtd_next hlt HK⟩
      case measure => simp [intOf]; omega
    · obtain rfl : k = 0 := by omega
      go_wp2
      go_ret
      exact ⟨mtd_end HK, (by repeat (first | exact Below.refl _ _ | refine Below.alloc ?_ (by first | omega | (simp; done) | (simp; omega)) _ | apply Below.drew | apply below_drewN | refine Below.setCell ?_ (by first | omega | (simp; done) | (simp; omega)) _ | refine Below.trans ?_ (Below.mono (by assumption) (by first | omega | (simp; done) | (simp; omega)))))⟩
end Go.Proofs.YtkpjjohanbiagaaDoor
