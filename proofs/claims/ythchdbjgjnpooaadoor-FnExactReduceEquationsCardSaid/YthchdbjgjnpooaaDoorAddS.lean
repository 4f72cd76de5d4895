/- l25Add: the walk. -/
import Derived.Test.YthchdbjgjnpooaaDoorRedP
namespace Go.Proofs.YthchdbjgjnpooaaDoor
set_option linter.unusedVariables false
set_option linter.unusedSimpArgs false
open Go.RowKit
theorem region_st {P : Program} {id : Nat} {Q : Exit → Act → World → Prop} {a : Act} {w : World} {l : List Oper} (n : Nat) (hm : P.follows .mixedOrders = true) (hB : Region.lexTailB .any l.toArray n = true)
    (h : ∀ w6, w6 = w.drew → wpStill P l.toArray w6 (fun a' => wpList P l.toArray Q (l.drop n) a' w6) (l.take n) a) : (Code.region id l.toArray true).wp P Q a w := wp_region_still_tail n hm hB (h _ rfl)
theorem gdrew {a w : World} {row : Option Nat} (h : a.grownBy w row) : a.grownBy w.drew row := ⟨h.os, h.tape, h.output, h.size, h.block⟩
theorem addK_yes {k : Nat} {row e : Rw} (h : e.m.testBit k = true) : addK k row e = e.add row := by rw [addK, if_pos h]
theorem addK_no {k : Nat} {row e : Rw} (h : e.m.testBit k = false) : addK k row e = e := by rw [addK, if_neg (by rw [h]; decide)]
theorem set_off {w : World} {g g' o o' : Nat} {u : Value} (h : g' ≠ g) : (w.setCell ⟨g, o, none⟩ u).cell? ⟨g', o', none⟩ = w.cell? ⟨g', o', none⟩ := World.cell?_setCell_other _ _ _ _ (by intro e; injection e with e _ _; exact h e.symm)
theorem set_off2 {w : World} {g o o' : Nat} {u : Value} (h : o' ≠ o) : (w.setCell ⟨g, o, none⟩ u).cell? ⟨g, o', none⟩ = w.cell? ⟨g, o', none⟩ := World.cell?_setCell_other _ _ _ _ (by intro e; injection e with _ e _; exact h e.symm)
set_option maxRecDepth 20000 in
set_option maxHeartbeats 8000000 in
theorem add_s (B : Nat) (l : List Rw) (v : Value) (k : Nat) (row : Rw) (w : World) (h : RowL .u64 61 B w v l) (hk : k < 64) (hl : ∀ e ∈ l, e.m < 18446744073709551616) (hr : row.m < 18446744073709551616) (hn : l.length ≤ 1048576) :
    Calls Tryd.prog 45 #[v, .int .i64 k, .agg #[.int .u64 row.m, .int .u64 (bi row.r)]] w fun e w' => e = .returned (.tuple #[]) ∧ RowL .u64 61 B w' v (l.map (addK k row)) ∧ w.grownBy w' v.ownBlock := by
  obtain ⟨A, cA, rfl, hA⟩ := h.shape
  have x4 : Below w.heap.size w (w.alloc (.cells #[.int .u64 row.m, .int .u64 (bi row.r)] 61)) := Below.alloc (Below.refl _ _) (Nat.le_refl _) _
  by_cases hl0 : l = []
  · subst hl0
    have HO := Lib.hid (OwnL.below h x4)
    clear h hA
    go_enter Tryd.func45, Tryd.ntmps45
    go_wp2
    refine wp_loop_once ?_
    go_wp2
    exact bodyPost_end (results_none rfl _ _ _) rfl ⟨rfl, HO.out, grown_of_below x4 _⟩
  · obtain ⟨gx, rfl, hgx1, hgx2⟩ := hA.resolve_left hl0
    have HL := Lib.hid hl
    have HO0 : Hid (RowL .u64 61 B (w.alloc (.cells #[.int .u64 row.m, .int .u64 (bi row.r)] 61)) (.slice (some ⟨gx, 0, none⟩) l.length cA) (mapT (addK k row) 0 l)) := by rw [mapT_zero]; exact Lib.hid (OwnL.below h x4)
    have hg0 : w.grownBy (w.alloc (.cells #[.int .u64 row.m, .int .u64 (bi row.r)] 61)) (some gx) := grown_of_below x4 _
    have a0 : (w.alloc (.cells #[.int .u64 row.m, .int .u64 (bi row.r)] 61)).cell? ⟨w.heap.size, 0, none⟩ = some (.int .u64 row.m) := by simp [go_sem]
    have a1 : (w.alloc (.cells #[.int .u64 row.m, .int .u64 (bi row.r)] 61)).cell? ⟨w.heap.size, 1, none⟩ = some (.int .u64 (bi row.r)) := by simp [go_sem]
    clear h hA hl x4
    go_enter Tryd.func45, Tryd.ntmps45
    go_wp2
    go_loopw [6] (fun i wr => ∃ j : Nat, j ≤ l.length ∧ i = .int .i64 j ∧ w.grownBy wr (some gx) ∧ wr.cell? ⟨w.heap.size, 0, none⟩ = some (.int .u64 row.m) ∧ wr.cell? ⟨w.heap.size, 1, none⟩ = some (.int .u64 (bi row.r)) ∧ Hid (RowL .u64 61 B wr (.slice (some ⟨gx, 0, none⟩) l.length cA) (mapT (addK k row) j l))) (fun i _ => l.length - (intOf i).toNat)
    case atStart => exact ⟨0, by omega, rfl, hg0, a0, a1, HO0⟩
    case round =>
      clear HO0 hg0 a0 a1
      obtain ⟨j, hj, rfl, hg, a0, a1, HO⟩ := hrel
      by_cases hltj : j < l.length
      · obtain ⟨e, he⟩ : ∃ e, l[j]? = some e := ⟨l[j], List.getElem?_eq_getElem hltj⟩
        have hT := mapT_get (F := addK k row) he
        have k0 := OwnL.at1 (rc_len .u64) HO.out hT (j := 0) rfl
        have k1 := OwnL.at1 (rc_len .u64) HO.out hT (j := 1) rfl
        simp only [Nat.add_zero] at k0
        have hel := HL.out e (List.mem_of_getElem? he)
        have hbv := u64_bit e.m k hel
        have hbv2 : bits .and .u64 ((e.m : Int) / 2 ^ min k 64) 1 = bi (e.m.testBit k) := by rw [Nat.min_eq_left (by omega)]; exact hbv
        cases ht : e.m.testBit k
        · rw [ht, bi_f] at hbv hbv2
          have HN := Lib.hid (mapT_same he (addK_no (row := row) ht))
          clear he hT ht
          go_wp2
          go_roundw
          case rel => exact ⟨j + 1, by omega, by go_num, hg, a0, a1, by rw [HN.out]; exact HO⟩
          case measure => simp [intOf]; omega
        · rw [ht, bi_t] at hbv hbv2
          have hxm := u64_xor_nat e.m row.m hel hr
          have hxr := bi_xor_u e.r row.r
          have HM := Lib.hid (mapT_next (F := addK k row) he)
          rw [addK_yes ht] at HM
          have HS := Lib.hid (OwnL.set2 (a' := e.add row) HO.out hT)
          rw [HM.out] at HS
          have z0 := fun j => OwnL.frozen (j := j) HO.out
          have hne : w.heap.size ≠ gx := by omega
          have b1 : (wr.setCell ⟨gx, j * 2, none⟩ (.int .u64 ((e.m ^^^ row.m : Nat) : Int))).cell? ⟨w.heap.size, 1, none⟩ = some (.int .u64 (bi row.r)) := (set_off hne).trans a1
          have b0 : (wr.setCell ⟨gx, j * 2, none⟩ (.int .u64 ((e.m ^^^ row.m : Nat) : Int))).cell? ⟨w.heap.size, 0, none⟩ = some (.int .u64 row.m) := (set_off hne).trans a0
          have b2 : (wr.setCell ⟨gx, j * 2, none⟩ (.int .u64 ((e.m ^^^ row.m : Nat) : Int))).cell? ⟨gx, j * 2 + 1, none⟩ = some (.int .u64 (bi e.r)) := (set_off2 (by omega)).trans k1
          have HB0 := Lib.hid ((set_off (o := j * 2 + 1) (u := .int .u64 (bi (e.r ^^ row.r))) (g := gx) (o' := 0) hne).trans b0)
          have HB1 := Lib.hid ((set_off (o := j * 2 + 1) (u := .int .u64 (bi (e.r ^^ row.r))) (g := gx) (o' := 1) hne).trans b1)
          clear he hT ht
          go_wp2
          go_still_tail 10, (by kernel_rfl)
          go_wp2
          have c1 : (wr.setCell ⟨gx, j * 2, none⟩ (.int .u64 ((e.m ^^^ row.m : Nat) : Int))).drew.drew.cell? ⟨w.heap.size, 1, none⟩ = some (.int .u64 (bi row.r)) := b1
          have c2 : (wr.setCell ⟨gx, j * 2, none⟩ (.int .u64 ((e.m ^^^ row.m : Nat) : Int))).drew.drew.cell? ⟨gx, j * 2 + 1, none⟩ = some (.int .u64 (bi e.r)) := b2
          have c3 : (wr.setCell ⟨gx, j * 2, none⟩ (.int .u64 ((e.m ^^^ row.m : Nat) : Int))).drew.drew.frozen? ⟨gx, j * 2 + 1, none⟩ = false := (World.frozen?_setCell _ _ _ _).trans (z0 _)
          refine region_st 10 (by kernel_rfl) (by kernel_rfl) (fun w8 hw8 => ?_)
          rw [← hw8] at c1 c2 c3
          repeat still_step
          refine wpStill_nil ?_
          go_wp2
          subst hw8
          go_roundw
          case rel => exact ⟨j + 1, by omega, by go_num, gtrans hg (gdrew (gdrew (gset (gset (World.grownBy.refl wr (some gx)) _ _) _ _))), HB0.out, HB1.out, Lib.hid (OwnL.qt HS.out ⟨2, rfl⟩)⟩
          case measure => simp [intOf]; omega
      · obtain rfl : j = l.length := by omega
        rw [mapT_end] at HO
        go_wp2
        exact bodyPost_end (results_none rfl _ _ _) rfl ⟨rfl, HO.out, hg⟩
end Go.Proofs.YthchdbjgjnpooaaDoor
