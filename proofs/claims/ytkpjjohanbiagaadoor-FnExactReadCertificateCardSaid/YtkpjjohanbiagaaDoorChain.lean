/- Entries of a ledger as lists; chainOf, impl and spec. -/
import Derived.Test.YtkpjjohanbiagaaDoorVerb
namespace Go.Proofs.YtkpjjohanbiagaaDoor
set_option linter.unusedVariables false
set_option linter.unusedSimpArgs false
open Go.RowKit

structure Ent where
  verb : ByteArray
  before : Int
  after : Int
  chain : Int
def Ent.cells (e : Ent) : List Value := [.string e.verb, .int .i64 e.before, .int .i64 e.after, .int .i64 e.chain]
abbrev entV (v : ByteArray) (b a c : Int) : Value := .agg #[.string v, .int .i64 b, .int .i64 a, .int .i64 c]
def chainL (last : Nat) (v : ByteArray) (b a : Nat) : Nat := crcB (word last ++ v ++ word b ++ word a)
theorem chain_lt (last : Nat) (v : ByteArray) (b a : Nat) : chainL last v b a < 65536 := crcB_lt _
theorem word_size (n : Nat) : (word n).size = 2 := by simp [word, strOfNums_size]

set_option maxHeartbeats 1000000 in
theorem chain_i (last : Nat) (v : ByteArray) (b a : Nat) (c : Int) (w : World) (h0 : last < 65536) (hv : v.size ≤ 1048576) (hb : b < 65536) (ha : a < 65536) :
    Calls Tryd.prog 54 #[.int .i64 last, entV v b a c] w fun e w' => e = .returned (.int .i64 (chainL last v b a)) ∧ Below w.heap.size w w' := by
  go_enter Tryd.func54, Tryd.ntmps54
  go_wp2
  have c0 : ∀ x : Wb (w.alloc (.cells #[.string v, .int .i64 b, .int .i64 a, .int .i64 c] 48)), x.1.cell? ⟨w.heap.size, 0, none⟩ = some (.string v) := fun x => Wb.cell (by simp) x
  have c1 : ∀ x : Wb (w.alloc (.cells #[.string v, .int .i64 b, .int .i64 a, .int .i64 c] 48)), x.1.cell? ⟨w.heap.size, 1, none⟩ = some (.int .i64 b) := fun x => Wb.cell (by simp) x
  have c2 : ∀ x : Wb (w.alloc (.cells #[.string v, .int .i64 b, .int .i64 a, .int .i64 c] 48)), x.1.cell? ⟨w.heap.size, 2, none⟩ = some (.int .i64 a) := fun x => Wb.cell (by simp) x
  have hws : ∀ n, (word n).size = 2 := word_size
  have hsa : ∀ x y : ByteArray, (x ++ y).size = x.size + y.size := fun _ _ => ByteArray.size_append
  refine wp_region_wb (by kernel_rfl) (by kernel_rfl) ?_
  repeat (go_big_quiet_step (first
    | (go_at_call 73; exact Wb.calls (putWord_i _ _ (by omega)))
    | (go_at_call 70; exact Wb.same (crcS_i _ _ (by rw [hsa, hsa, hsa, hws, hws, hws]; omega)))))
  refine wpQuiet_nil ?_; intro w1 hw'; obtain ⟨⟨w2, hb1⟩, hw''⟩ := hw'; subst hw''
  go_wp2
  go_ret
  exact ⟨rfl, (by repeat (first | exact Below.refl _ _ | refine Below.alloc ?_ (by first | omega | (simp; done) | (simp; omega)) _ | apply Below.drew | apply below_drewN | refine Below.setCell ?_ (by first | omega | (simp; done) | (simp; omega)) _ | refine Below.trans ?_ (Below.mono (by assumption) (by first | omega | (simp; done) | (simp; omega)))))⟩
set_option maxHeartbeats 1000000 in
theorem chain_s (last : Nat) (v : ByteArray) (b a : Nat) (c : Int) (w : World) (h0 : last < 65536) (hv : v.size ≤ 1048576) (hb : b < 65536) (ha : a < 65536) :
    Calls Tryd.prog 81 #[.int .i64 last, entV v b a c] w fun e w' => e = .returned (.int .i64 (chainL last v b a)) ∧ Below w.heap.size w w' := by
  go_enter Tryd.func81, Tryd.ntmps81
  go_wp2
  have c0 : ∀ x : Wb (w.alloc (.cells #[.string v, .int .i64 b, .int .i64 a, .int .i64 c] 48)), x.1.cell? ⟨w.heap.size, 0, none⟩ = some (.string v) := fun x => Wb.cell (by simp) x
  have c1 : ∀ x : Wb (w.alloc (.cells #[.string v, .int .i64 b, .int .i64 a, .int .i64 c] 48)), x.1.cell? ⟨w.heap.size, 1, none⟩ = some (.int .i64 b) := fun x => Wb.cell (by simp) x
  have c2 : ∀ x : Wb (w.alloc (.cells #[.string v, .int .i64 b, .int .i64 a, .int .i64 c] 48)), x.1.cell? ⟨w.heap.size, 2, none⟩ = some (.int .i64 a) := fun x => Wb.cell (by simp) x
  have hws : ∀ n, (word n).size = 2 := word_size
  have hsa : ∀ x y : ByteArray, (x ++ y).size = x.size + y.size := fun _ _ => ByteArray.size_append
  refine wp_region_wb (by kernel_rfl) (by kernel_rfl) ?_
  repeat (go_big_quiet_step (first
    | (go_at_call 98; exact Wb.calls (word_s _ _ (by omega)))
    | (go_at_call 97; exact Wb.same (crcS_s _ _ (by rw [hsa, hsa, hsa, hws, hws, hws]; omega)))))
  refine wpQuiet_nil ?_; intro w1 hw'; obtain ⟨⟨w2, hb1⟩, hw''⟩ := hw'; subst hw''
  go_wp2
  go_ret
  exact ⟨rfl, (by repeat (first | exact Below.refl _ _ | refine Below.alloc ?_ (by first | omega | (simp; done) | (simp; omega)) _ | apply Below.drew | apply below_drewN | refine Below.setCell ?_ (by first | omega | (simp; done) | (simp; omega)) _ | refine Below.trans ?_ (Below.mono (by assumption) (by first | omega | (simp; done) | (simp; omega)))))⟩

/-- the same for whole numbers -/
def chainI (last : Int) (v : ByteArray) (b a : Int) : Int := chainL last.toNat v b.toNat a.toNat
theorem chainI_bd (last : Int) (v : ByteArray) (b a : Int) : 0 ≤ chainI last v b a ∧ chainI last v b a ≤ 65535 := by
  have := chain_lt last.toNat v b.toNat a.toNat
  unfold chainI; omega
theorem chainI_i (last : Int) (v : ByteArray) (b a : Int) (c : Int) (w : World) (h0 : 0 ≤ last ∧ last ≤ 65535) (hv : v.size ≤ 1048576) (hb : 0 ≤ b ∧ b ≤ 65535) (ha : 0 ≤ a ∧ a ≤ 65535) :
    Calls Tryd.prog 54 #[.int .i64 last, entV v b a c] w fun e w' => e = .returned (.int .i64 (chainI last v b a)) ∧ Below w.heap.size w w' := by
  obtain ⟨h0, h0'⟩ := h0
  obtain ⟨hb, hb'⟩ := hb
  obtain ⟨ha, ha'⟩ := ha
  obtain ⟨m, rfl⟩ := Int.eq_ofNat_of_zero_le h0
  obtain ⟨n, rfl⟩ := Int.eq_ofNat_of_zero_le hb
  obtain ⟨k, rfl⟩ := Int.eq_ofNat_of_zero_le ha
  exact chain_i m v n k c w (by omega) hv (by omega) (by omega)
theorem chainI_s (last : Int) (v : ByteArray) (b a : Int) (c : Int) (w : World) (h0 : 0 ≤ last ∧ last ≤ 65535) (hv : v.size ≤ 1048576) (hb : 0 ≤ b ∧ b ≤ 65535) (ha : 0 ≤ a ∧ a ≤ 65535) :
    Calls Tryd.prog 81 #[.int .i64 last, entV v b a c] w fun e w' => e = .returned (.int .i64 (chainI last v b a)) ∧ Below w.heap.size w w' := by
  obtain ⟨h0, h0'⟩ := h0
  obtain ⟨hb, hb'⟩ := hb
  obtain ⟨ha, ha'⟩ := ha
  obtain ⟨m, rfl⟩ := Int.eq_ofNat_of_zero_le h0
  obtain ⟨n, rfl⟩ := Int.eq_ofNat_of_zero_le hb
  obtain ⟨k, rfl⟩ := Int.eq_ofNat_of_zero_le ha
  exact chain_s m v n k c w (by omega) hv (by omega) (by omega)
theorem isWord_i (x : Int) (w : World) : Calls Tryd.prog 53 #[.int .i64 x] w fun e w' => e = .returned (.bool (inB x 0 65535)) ∧ w = w' := by
  go_enter Tryd.func53, Tryd.ntmps53
  go_wp2_with (first | (go_at_call 63; refine (within_i _ _ _ _).mono ?_; rintro e w1 ⟨rfl, rfl⟩))
  go_ret
  exact ⟨rfl, rfl⟩
end Go.Proofs.YtkpjjohanbiagaaDoor
