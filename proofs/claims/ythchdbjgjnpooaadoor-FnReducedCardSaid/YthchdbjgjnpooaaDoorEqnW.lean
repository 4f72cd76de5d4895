/- Rows as equations: the walks. -/
import Derived.Test.YthchdbjgjnpooaaDoorHEqM
import Derived.Test.YthchdbjgjnpooaaDoorRedL
import Derived.Test.YthchdbjgjnpooaaDoorVEqn
namespace Go.Proofs.YthchdbjgjnpooaaDoor
set_option linter.unusedVariables false
set_option linter.unusedSimpArgs false
open Go.RowKit
/-- the bits of a number, the first k looked at -/
def bitsK (m k : Nat) : List Nat := (List.range k).filter m.testBit
theorem bitsK_yes {m k : Nat} (h : m.testBit k = true) : bitsK m (k + 1) = bitsK m k ++ [k] := by
  unfold bitsK; rw [List.range_succ, List.filter_append]; simp [h]
theorem bitsK_no {m k : Nat} (h : m.testBit k = false) : bitsK m (k + 1) = bitsK m k := by
  unfold bitsK; rw [List.range_succ, List.filter_append]; simp [h]
theorem bitsK_len (m k : Nat) : (bitsK m k).length ≤ k := by
  have := List.length_filter_le m.testBit (List.range k); simpa [bitsK] using this
def rowEqn (e : Rw) : Eqn := ⟨intsN (bitsK e.m 64), bi e.r⟩
theorem eqn_info : (Tryd.prog.info? 34).map (fun i => (i.zero, i.size, i.bytes)) = some (some (.agg #[.slice none 0 0, .int .i64 0]), 2, 32) := by kernel_rfl
/-- what a call's own boxes hold behind an append to a slice that lies elsewhere -/
theorem eq_keep {w wr wa w8 : World} {row : Option Nat} {m : Nat} {r : Int} {bv u1 u2 : Value} (hbl : ∀ b, row = some b → w.heap.size + 3 ≤ b ∧ b < wr.heap.size) (hab : Below wr.heap.size wr wa) (hg : wa.grownBy w8 row) (hba : Below w.heap.size w wa) (hz : w.heap.size + 3 ≤ wr.heap.size)
    (p0 : wr.cell? ⟨w.heap.size, 0, none⟩ = some (.int .u64 m)) (p1 : wr.cell? ⟨w.heap.size + 1, 0, none⟩ = some u1) (p2 : wr.cell? ⟨w.heap.size + 1, 1, none⟩ = some u2) (f1 : ∀ j, wr.frozen? ⟨w.heap.size + 1, j, none⟩ = false) (p3 : wr.cell? ⟨w.heap.size + 1 + 1, 0, none⟩ = some bv) (p4 : wr.cell? ⟨w.heap.size + 1 + 1, 1, none⟩ = some (.int .i64 r)) (f2 : ∀ j, wr.frozen? ⟨w.heap.size + 1 + 1, j, none⟩ = false) :
    (w8.cell? ⟨w.heap.size, 0, none⟩ = some (.int .u64 m) ∧ w8.cell? ⟨w.heap.size + 1, 0, none⟩ = some u1 ∧ w8.cell? ⟨w.heap.size + 1, 1, none⟩ = some u2 ∧ w8.cell? ⟨w.heap.size + 1 + 1, 0, none⟩ = some bv ∧ w8.cell? ⟨w.heap.size + 1 + 1, 1, none⟩ = some (.int .i64 r) ∧ ∀ j, w8.frozen? ⟨w.heap.size + 1, j, none⟩ = false) ∧ ((∀ j, w8.frozen? ⟨w.heap.size + 1 + 1, j, none⟩ = false) ∧ True) ∧ Below w.heap.size w w8 ∧ w.heap.size + 3 ≤ w8.heap.size := by
  have hblk : ∀ k, k < w.heap.size + 3 → w8.heap[k]? = wr.heap[k]? := fun k hk => (hg.block k (Nat.lt_of_lt_of_le (Nat.lt_of_lt_of_le hk hz) hab.size) (by intro e; have := (hbl k e.symm).1; omega)).trans (hab.block k (by omega))
  have C := fun k j (hk : k < w.heap.size + 3) => World.cell?_of_block (a := ⟨k, j, none⟩) (hblk k hk)
  have F := fun k j (hk : k < w.heap.size + 3) => World.frozen?_of_block (a := ⟨k, j, none⟩) (hblk k hk)
  exact ⟨⟨(C _ _ (by omega)).trans p0, (C _ _ (by omega)).trans p1, (C _ _ (by omega)).trans p2, (C _ _ (by omega)).trans p3, (C _ _ (by omega)).trans p4, fun j => (F _ _ (by omega)).trans (f1 j)⟩, ⟨fun j => (F _ _ (by omega)).trans (f2 j), trivial⟩, hba.grown hg hba.size (fun k hk => by have := (hbl k hk).1; omega), Nat.le_trans hz (Nat.le_trans hab.size hg.size)⟩
theorem eq_st_far {w : World} {b o g o' : Nat} {u v : Value} (h : w.cell? ⟨b, o, none⟩ = some v) (hn : b ≠ g) : (w.setCell ⟨g, o', none⟩ u).cell? ⟨b, o, none⟩ = some v := (World.cell?_setCell_other _ _ _ _ (by intro e; injection e with e _ _; omega)).trans h
set_option maxRecDepth 20000 in
set_option maxHeartbeats 4000000 in
theorem equation_i (m : Nat) (r : Int) (w : World) (hm : m < 18446744073709551616) :
    Calls Tryd.prog 26 #[.agg #[.int .u64 m, .int .i64 r]] w fun e w' => ∃ A n c, e = .returned (.agg #[.slice A n c, .int .i64 r]) ∧ Int64L w.heap.size w' (.slice A n c) (intsN (bitsK m 64)) ∧ Below w.heap.size w w' := by
  obtain ⟨i0, hi, hz0, hz1, hz2⟩ := info_parts icell_info
  go_enter Tryd.func26, Tryd.ntmps26
  go_wp2
  go_loopw [8] (fun i wr => ∃ (k : Nat) (bv : Value), k ≤ 64 ∧ i = .int .i64 k ∧ Below w.heap.size w wr ∧ w.heap.size + 3 ≤ wr.heap.size ∧ wr.cell? ⟨w.heap.size, 0, none⟩ = some (.int .u64 m) ∧ (∃ u, wr.cell? ⟨w.heap.size + 1, 0, none⟩ = some u) ∧ (∃ u, wr.cell? ⟨w.heap.size + 1, 1, none⟩ = some u) ∧ (∀ j, wr.frozen? ⟨w.heap.size + 1, j, none⟩ = false) ∧ wr.cell? ⟨w.heap.size + 1 + 1, 0, none⟩ = some bv ∧ wr.cell? ⟨w.heap.size + 1 + 1, 1, none⟩ = some (.int .i64 r) ∧ (∀ j, wr.frozen? ⟨w.heap.size + 1 + 1, j, none⟩ = false) ∧ Hid (Int64L (w.heap.size + 3) wr bv (intsN (bitsK m k)))) (fun i _ => 64 - (intOf i).toNat)
  case atStart =>
    refine ⟨0, .slice none 0 0, by omega, rfl, ?_, ?_, ?_, ⟨.slice none 0 0, ?_⟩, ⟨.int .i64 0, ?_⟩, ?_, ?_, ?_, ?_, Lib.hid OwnL.of_nil⟩
    · exact Below.alloc (Below.alloc (Below.alloc (Below.refl _ _) (Nat.le_refl _) _) (by simp) _) (by simp; omega) _
    all_goals first | (simp [go_sem]; done) | (intro j; simp [go_sem]; done) | (simp [go_sem]; omega)
  case round =>
    obtain ⟨k, bv, hk, rfl, hb, hz, p0, ⟨u1, p1⟩, ⟨u2, p2⟩, f1, p3, p4, f2, HO⟩ := hrel
    have hbl := bitsK_len m k
    obtain ⟨Ab, cb, hvb, _⟩ := OwnL.shape HO.out
    rw [intsN_len] at hvb
    subst hvb
    by_cases hlt : k < 64
    · have hbv := u64_bit m k hm
      have hbv2 : bits .and .u64 ((m : Int) / 2 ^ min k 64) 1 = bi (m.testBit k) := by rw [Nat.min_eq_left (by omega)]; exact hbv
      cases ht : m.testBit k
      · rw [ht, bi_f] at hbv hbv2
        have HN := Lib.hid (bitsK_no ht)
        clear ht
        go_wp2
        go_roundw
        case rel => exact ⟨k + 1, _, by omega, by go_num, hb, hz, p0, ⟨_, p1⟩, ⟨_, p2⟩, f1, p3, p4, f2, by rw [HN.out]; exact HO⟩
        case measure => simp [intOf]; omega
      · rw [ht, bi_t] at hbv hbv2
        have HN := Lib.hid (bitsK_yes ht)
        have hbl1 : (intsN (bitsK m k)).length + 1 ≤ 16777216 := by rw [intsN_len]; omega
        have hbase : w.heap.size + 3 ≤ (wr.alloc (.cells #[.int .i64 (k : Int)] 2)).heap.size := by simp; omega
        have hba : Below w.heap.size w (wr.alloc (.cells #[.int .i64 (k : Int)] 2)) := Below.alloc hb hb.size _
        have hab : Below wr.heap.size wr (wr.alloc (.cells #[.int .i64 (k : Int)] 2)) := Below.alloc (Below.refl _ _) (Nat.le_refl _) _
        have HBL := Lib.hid (World.ownsRow.lt HO.out)
        clear ht
        go_wp2_with (at_builtin; refine wpList_app1 icell 1 icell_len _ rfl _ _ _ rfl (w.heap.size + 3) 2 i0 (.int .i64 0) 8 Tryd.underlying28 hi hz0 hz1 hz2 rfl (by decide) _ (intsN (bitsK m k)) rfl (HO.out.alloc _) _ 1 (k : Int) rfl ?_ (by simp [icell, Value.oneCell']) hbl1 (by decide) hbase ?_; (· intro j u hu; cases j with | zero => (simp [icell] at hu; subst hu; simp) | succ j => simp [icell] at hu); intro v' w8 how8 hg8'; have hg8 : (wr.alloc (.cells #[.int .i64 (k : Int)] 2)).grownBy w8 (Value.slice Ab (bitsK m k).length cb).ownBlock := hg8'; obtain ⟨⟨hk0, hk1, hk2, hk3, hk4, hk5⟩, ⟨hl1, _⟩, hb8, hz8⟩ := eq_keep HBL.out hab hg8 hba hz p0 p1 p2 f1 p3 p4 f2; obtain ⟨A8, c8, rfl, _⟩ := OwnL.shape how8; have HO8 := Lib.hid how8; clear how8 hg8 hg8')
        go_roundw
        case rel => exact ⟨k + 1, _, by omega, by go_num, Below.setCell hb8 (p := ⟨w.heap.size + 1 + 1, 0, none⟩) (show w.heap.size ≤ w.heap.size + 1 + 1 by omega) _, by simpa using hz8, eq_st_far hk0 (by omega), ⟨_, eq_st_far hk1 (by omega)⟩, ⟨_, eq_st_far hk2 (by omega)⟩, fun j => (World.frozen?_setCell _ _ _ _).trans (hk5 j), World.cell?_setCell_same _ _ _ hk3, (World.cell?_setCell_other _ _ _ _ (by intro e; injection e with _ e _; omega)).trans hk4, fun j => (World.frozen?_setCell _ _ _ _).trans (hl1 j), by rw [HN.out, intsN_app, ← (by simp : (intsN (bitsK m k) ++ [(k : Int)]).length = (intsN (bitsK m k)).length + 1)]; exact Lib.hid (far_set HO8.out (by omega))⟩
        case measure => simp [intOf]; omega
    · obtain rfl : k = 64 := by omega
      have HO2 := far_set (g := w.heap.size + 1) (o := 1) (u := .int .i64 r) (far_set (g := w.heap.size + 1) (o := 0) (u := .slice Ab (bitsK m 64).length cb) HO.out (by omega)) (by omega)
      have s0 := World.cell?_setCell_other (wr.setCell ⟨w.heap.size + 1, 0, none⟩ (.slice Ab (bitsK m 64).length cb)) ⟨w.heap.size + 1, 1, none⟩ ⟨w.heap.size + 1, 0, none⟩ (.int .i64 r) (by intro e; injection e with _ e _; omega)
      rw [World.cell?_setCell_same _ _ _ p1] at s0
      have s1 := World.cell?_setCell_same (wr.setCell ⟨w.heap.size + 1, 0, none⟩ (.slice Ab (bitsK m 64).length cb)) ⟨w.heap.size + 1, 1, none⟩ (.int .i64 r) ((World.cell?_setCell_other _ _ _ _ (by intro e; injection e with _ e _; omega)).trans p2)
      go_wp2
      refine bodyPost_ret (v := .agg #[.slice Ab (bitsK m 64).length cb, .int .i64 r]) (by simp [results, Tryd.results26, go_sem, s0, s1]; try done) rfl ⟨Ab, _, cb, rfl, OwnL.base HO2 (by omega), (by repeat (first | exact Below.refl _ _ | refine Below.alloc ?_ (by first | omega | (simp; done) | (simp; omega)) _ | apply Below.drew | apply below_drewN | refine Below.setCell ?_ (by first | omega | (simp; done) | (simp; omega)) _ | refine Below.trans ?_ (Below.mono (by assumption) (by first | omega | (simp; done) | (simp; omega)))))⟩
end Go.Proofs.YthchdbjgjnpooaaDoor
