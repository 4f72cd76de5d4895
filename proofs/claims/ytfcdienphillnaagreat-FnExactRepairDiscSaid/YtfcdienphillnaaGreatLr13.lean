/- Lists that are solved row by row: steps of the walk. l25Add: the walk. What the solving of rows hands back. reduce with the topmost bit: the walk. -/
import Derived.Test.YtfcdienphillnaaGreatLr12
import Derived.StillTailTactics
namespace Go.Proofs.YtfcdienphillnaaGreat
set_option linter.unusedVariables false
set_option linter.unusedSimpArgs false
open Go.RowKit
theorem region_s0 {P : Program} {id : Nat} {Q : Exit → Act → World → Prop} {a : Act} {w : World} {ops : Array Oper} (hm : P.follows .mixedOrders = true) (hB : Region.lexB .any ops = true)
    (h : ∀ w6, w6 = w.drew → wpStill P ops w6 (fun a' => Q .normal a' w6) ops.toList a) : (Code.region id ops true).wp P Q a w := wp_region_still hm hB (h _ rfl)
theorem still_c {P : Program} {f : FuncId} {args : Array Value} {w : World} {v : Value} (h : Calls P f args w fun e w' => e = .returned v ∧ w = w') : Calls P f args w fun e w' => e = .returned v ∧ w' = w :=
  h.mono fun _ _ ⟨a, b⟩ => ⟨a, b.symm⟩
theorem box2 (w : World) (a b : Value) (e : TypeId) : (w.alloc (.cells #[a, b] e)).drew.cell? ⟨w.heap.size, 0, none⟩ = some a ∧ (w.alloc (.cells #[a, b] e)).drew.cell? ⟨w.heap.size, 1, none⟩ = some b ∧ (w.alloc (.cells #[a, b] e)).drew.frozen? ⟨w.heap.size, 0, none⟩ = false ∧ (w.alloc (.cells #[a, b] e)).drew.frozen? ⟨w.heap.size, 1, none⟩ = false ∧ Below w.heap.size w (w.alloc (.cells #[a, b] e)).drew ∧ w.heap.size < (w.alloc (.cells #[a, b] e)).drew.heap.size := by
  refine ⟨?_, ?_, ?_, ?_, (Below.alloc (Below.refl _ _) (Nat.le_refl _) _).drew, by simp⟩ <;> simp [go_sem]
theorem redI_cons {p : Nat → Nat} {ol rs : List Rw} {r r' : Rw} (h : ol.foldl (clr p) r = r') : redI p ol (r :: rs) = if r'.m = 0 then (if r'.r then none else redI p ol rs) else redI p (ol.map (fun k => clr (fun _ => p r'.m) k r') ++ [r']) rs := by rw [redI, h]
theorem rd_none {p : Nat → Nat} {ol l : List Rw} {k : Nat} {r r' : Rw} {X : Option (List Rw)} (hg : l[k]? = some r) (H : Hid (X = redI p ol (l.drop k))) (h : ol.foldl (clr p) r = r') (h0 : r'.m = 0) (h1 : r'.r = true) : X = none := by
  obtain ⟨hk, rfl⟩ := List.getElem?_eq_some_iff.1 hg
  rw [H.out, List.drop_eq_getElem_cons hk, redI_cons h, if_pos h0, if_pos h1]
theorem rd_skip {p : Nat → Nat} {ol l : List Rw} {k : Nat} {r r' : Rw} {X : Option (List Rw)} (hg : l[k]? = some r) (H : Hid (X = redI p ol (l.drop k))) (h : ol.foldl (clr p) r = r') (h0 : r'.m = 0) (h1 : r'.r = false) : Hid (X = redI p ol (l.drop (k + 1))) := by
  obtain ⟨hk, rfl⟩ := List.getElem?_eq_some_iff.1 hg
  exact Lib.hid (by rw [H.out, List.drop_eq_getElem_cons hk, redI_cons h, if_pos h0, if_neg (by rw [h1]; decide)])
theorem rd_more {p : Nat → Nat} {ol l : List Rw} {k : Nat} {r r' : Rw} {X : Option (List Rw)} (hg : l[k]? = some r) (H : Hid (X = redI p ol (l.drop k))) (h : ol.foldl (clr p) r = r') (h0 : r'.m ≠ 0) : Hid (X = redI p (ol.map (fun k => clr (fun _ => p r'.m) k r') ++ [r']) (l.drop (k + 1))) := by
  obtain ⟨hk, rfl⟩ := List.getElem?_eq_some_iff.1 hg
  exact Lib.hid (by rw [H.out, List.drop_eq_getElem_cons hk, redI_cons h, if_neg h0])
theorem rd_end {p : Nat → Nat} {ol l : List Rw} {k : Nat} {X : Option (List Rw)} (hk : l.length ≤ k) (H : Hid (X = redI p ol (l.drop k))) : X = some ol := by
  rw [H.out, List.drop_of_length_le hk, redI]
theorem fo_yes {p : Nat → Nat} {ol : List Rw} {j : Nat} {r kn : Rw} {X : Rw} (hj : ol[j]? = some kn) (H : Hid (X = (ol.drop j).foldl (clr p) r)) (h : r.m.testBit (p kn.m) = true) : Hid (X = (ol.drop (j + 1)).foldl (clr p) (r.add kn)) := by
  obtain ⟨hk, rfl⟩ := List.getElem?_eq_some_iff.1 hj
  exact Lib.hid (by rw [H.out, List.drop_eq_getElem_cons hk, List.foldl_cons, clr, if_pos h])
theorem fo_no {p : Nat → Nat} {ol : List Rw} {j : Nat} {r kn : Rw} {X : Rw} (hj : ol[j]? = some kn) (H : Hid (X = (ol.drop j).foldl (clr p) r)) (h : r.m.testBit (p kn.m) = false) : Hid (X = (ol.drop (j + 1)).foldl (clr p) r) := by
  obtain ⟨hk, rfl⟩ := List.getElem?_eq_some_iff.1 hj
  exact Lib.hid (by rw [H.out, List.drop_eq_getElem_cons hk, List.foldl_cons, clr, if_neg (by rw [h]; decide)])
theorem fo_end {p : Nat → Nat} {ol : List Rw} {j : Nat} {r : Rw} {X : Rw} (hk : ol.length ≤ j) (H : Hid (X = (ol.drop j).foldl (clr p) r)) : X = r := by
  rw [H.out, List.drop_of_length_le hk]; rfl
/-- the first j elements turned -/
def mapT (F : Rw → Rw) (j : Nat) (l : List Rw) : List Rw := (l.take j).map F ++ l.drop j
theorem mapT_get {F : Rw → Rw} {j : Nat} {l : List Rw} {a : Rw} (h : l[j]? = some a) : (mapT F j l)[j]? = some a := by
  obtain ⟨hk, rfl⟩ := List.getElem?_eq_some_iff.1 h
  unfold mapT
  rw [List.getElem?_append_right (by simp; omega)]
  simp
  rw [show j - min j l.length = 0 by omega]; simp [hk]
theorem mapT_next {F : Rw → Rw} {j : Nat} {l : List Rw} {a : Rw} (h : l[j]? = some a) : (mapT F j l).set j (F a) = mapT F (j + 1) l := by
  obtain ⟨hk, rfl⟩ := List.getElem?_eq_some_iff.1 h
  unfold mapT
  have hm : ((l.take j).map F).length = j := by simp; omega
  rw [List.set_append_right _ _ (by omega), hm, Nat.sub_self, List.drop_eq_getElem_cons hk, List.set_cons_zero, List.take_succ_eq_append_getElem hk, List.map_append, List.append_assoc]; rfl
theorem mapT_same {F : Rw → Rw} {j : Nat} {l : List Rw} {a : Rw} (h : l[j]? = some a) (hF : F a = a) : mapT F (j + 1) l = mapT F j l := by
  rw [← mapT_next h, hF]
  have h2 := mapT_get (F := F) h
  obtain ⟨h3, h4⟩ := List.getElem?_eq_some_iff.1 h2
  conv => lhs; arg 3; rw [← h4]
  rw [List.set_getElem_self]
theorem mapT_zero (F : Rw → Rw) (l : List Rw) : mapT F 0 l = l := by simp [mapT]
theorem mapT_end (F : Rw → Rw) (l : List Rw) : mapT F l.length l = l.map F := by simp [mapT]
theorem OwnL.set2 {κ : IntKind} {e : TypeId} {B g n c k : Nat} {w : World} {l : List Rw} {a a' : Rw} (h : OwnL (rc κ) 2 e B w (.slice (some ⟨g, 0, none⟩) n c) l) (hk : l[k]? = some a) :
    OwnL (rc κ) 2 e B ((w.setCell ⟨g, k * 2, none⟩ (.int .u64 a'.m)).setCell ⟨g, k * 2 + 1, none⟩ (.int κ (bi a'.r))) (.slice (some ⟨g, 0, none⟩) n c) (l.set k a') := by
  have h1 := OwnL.set1 (rc_len κ) h hk (j := 0) (a' := ⟨a'.m, a.r⟩) (u := .int .u64 a'.m) (by omega) rfl
  have hl := (List.getElem?_eq_some_iff.1 hk).1
  have h2 := OwnL.set1 (rc_len κ) h1 (k := k) (a := ⟨a'.m, a.r⟩) (by rw [List.getElem?_set_self hl]) (j := 1) (a' := a') (u := .int κ (bi a'.r)) (by omega) rfl
  rw [List.set_set] at h2
  exact h2
theorem xor64 {a b : Nat} (ha : a < 18446744073709551616) (hb : b < 18446744073709551616) : a ^^^ b < 18446744073709551616 := Nat.xor_lt_two_pow (n := 64) ha hb
end Go.Proofs.YtfcdienphillnaaGreat
namespace Go.Proofs.YtfcdienphillnaaGreat
set_option linter.unusedVariables false
set_option linter.unusedSimpArgs false
open Go.RowKit
theorem region_st {P : Program} {id : Nat} {Q : Exit → Act → World → Prop} {a : Act} {w : World} {l : List Oper} (n : Nat) (hm : P.follows .mixedOrders = true) (hB : Region.lexTailB .any l.toArray n = true)
    (h : ∀ w6, w6 = w.drew → wpStill P l.toArray w6 (fun a' => wpList P l.toArray Q (l.drop n) a' w6) (l.take n) a) : (Code.region id l.toArray true).wp P Q a w := wp_region_still_tail n hm hB (h _ rfl)
theorem gdrew {a w : World} {row : Option Nat} (h : a.grownBy w row) : a.grownBy w.drew row := ⟨h.os, h.tape, h.output, h.size, h.block⟩
theorem addK_yes {k : Nat} {row e : Rw} (h : e.m.testBit k = true) : addK k row e = e.add row := by rw [addK, if_pos h]
theorem addK_no {k : Nat} {row e : Rw} (h : e.m.testBit k = false) : addK k row e = e := by rw [addK, if_neg (by rw [h]; decide)]
theorem set_off {w : World} {g g' o o' : Nat} {u : Value} (h : g' ≠ g) : (w.setCell ⟨g, o, none⟩ u).cell? ⟨g', o', none⟩ = w.cell? ⟨g', o', none⟩ := World.cell?_setCell_other _ _ _ _ (by intro e; injection e with e _ _; exact h e.symm)
theorem set_off2 {w : World} {g o o' : Nat} {u : Value} (h : o' ≠ o) : (w.setCell ⟨g, o, none⟩ u).cell? ⟨g, o', none⟩ = w.cell? ⟨g, o', none⟩ := World.cell?_setCell_other _ _ _ _ (by intro e; injection e with _ e _; exact h e.symm)
set_option maxRecDepth 20000 in
set_option maxHeartbeats 8000000 in
theorem add_s (B : Nat) (l : List Rw) (v : Value) (k : Nat) (row : Rw) (w : World) (h : RowL .u64 210 B w v l) (hk : k < 64) (hl : ∀ e ∈ l, e.m < 18446744073709551616) (hr : row.m < 18446744073709551616) (hn : l.length ≤ 1048576) :
    Calls Tryz.prog 201 #[v, .int .i64 k, .agg #[.int .u64 row.m, .int .u64 (bi row.r)]] w fun e w' => e = .returned (.tuple #[]) ∧ RowL .u64 210 B w' v (l.map (addK k row)) ∧ w.grownBy w' v.ownBlock := by
  obtain ⟨A, cA, rfl, hA⟩ := h.shape
  have x4 : Below w.heap.size w (w.alloc (.cells #[.int .u64 row.m, .int .u64 (bi row.r)] 210)) := Below.alloc (Below.refl _ _) (Nat.le_refl _) _
  by_cases hl0 : l = []
  · subst hl0
    have HO := Lib.hid (OwnL.below h x4)
    clear h hA
    go_enter Tryz.func201, Tryz.ntmps201
    go_wp2
    refine wp_loop_once ?_
    go_wp2
    exact bodyPost_end (results_none rfl _ _ _) rfl ⟨rfl, HO.out, grown_of_below x4 _⟩
  · obtain ⟨gx, rfl, hgx1, hgx2⟩ := hA.resolve_left hl0
    have HL := Lib.hid hl
    have HO0 : Hid (RowL .u64 210 B (w.alloc (.cells #[.int .u64 row.m, .int .u64 (bi row.r)] 210)) (.slice (some ⟨gx, 0, none⟩) l.length cA) (mapT (addK k row) 0 l)) := by rw [mapT_zero]; exact Lib.hid (OwnL.below h x4)
    have hg0 : w.grownBy (w.alloc (.cells #[.int .u64 row.m, .int .u64 (bi row.r)] 210)) (some gx) := grown_of_below x4 _
    have a0 : (w.alloc (.cells #[.int .u64 row.m, .int .u64 (bi row.r)] 210)).cell? ⟨w.heap.size, 0, none⟩ = some (.int .u64 row.m) := by simp [go_sem]
    have a1 : (w.alloc (.cells #[.int .u64 row.m, .int .u64 (bi row.r)] 210)).cell? ⟨w.heap.size, 1, none⟩ = some (.int .u64 (bi row.r)) := by simp [go_sem]
    clear h hA hl x4
    go_enter Tryz.func201, Tryz.ntmps201
    go_wp2
    go_loopw [6] (fun i wr => ∃ j : Nat, j ≤ l.length ∧ i = .int .i64 j ∧ w.grownBy wr (some gx) ∧ wr.cell? ⟨w.heap.size, 0, none⟩ = some (.int .u64 row.m) ∧ wr.cell? ⟨w.heap.size, 1, none⟩ = some (.int .u64 (bi row.r)) ∧ Hid (RowL .u64 210 B wr (.slice (some ⟨gx, 0, none⟩) l.length cA) (mapT (addK k row) j l))) (fun i _ => l.length - (intOf i).toNat)
    case atStart => exact ⟨0, by omega, rfl, hg0, a0, a1, HO0⟩
    case round =>
      clear HO0 hg0 a0 a1
      obtain ⟨j, hj, rfl, hg, a0, a1, HO⟩ := hrel
      by_cases hltj : j < l.length
      · obtain ⟨e, he⟩ : ∃ e, l[j]? = some e := ⟨l[j], List.getElem?_eq_getElem hltj⟩
        have hT := mapT_get (F := addK k row) he
        have k0 := OwnL.at1 (rc_len .u64) HO.out hT (j := 0) rfl
        have k1 := OwnL.at1 (rc_len .u64) HO.out hT (j := 1) rfl
        simp only [Nat.add_zero] at k0
        have hel := HL.out e (List.mem_of_getElem? he)
        have hbv := u64_bit e.m k hel
        have hbv2 : bits .and .u64 ((e.m : Int) / 2 ^ min k 64) 1 = bi (e.m.testBit k) := by rw [Nat.min_eq_left (by omega)]; exact hbv
        cases ht : e.m.testBit k
        · rw [ht, bi_f] at hbv hbv2
          have HN := Lib.hid (mapT_same he (addK_no (row := row) ht))
          clear he hT ht
          go_wp2
          go_roundw
          case rel => exact ⟨j + 1, by omega, by go_num, hg, a0, a1, by rw [HN.out]; exact HO⟩
          case measure => simp [intOf]; omega
        · rw [ht, bi_t] at hbv hbv2
          have hxm := u64_xor_nat e.m row.m hel hr
          have hxr := bi_xor_u e.r row.r
          have HM := Lib.hid (mapT_next (F := addK k row) he)
          rw [addK_yes ht] at HM
          have HS := Lib.hid (OwnL.set2 (a' := e.add row) HO.out hT)
          rw [HM.out] at HS
          have z0 := fun j => OwnL.frozen (j := j) HO.out
          have hne : w.heap.size ≠ gx := by omega
          have b1 : (wr.setCell ⟨gx, j * 2, none⟩ (.int .u64 ((e.m ^^^ row.m : Nat) : Int))).cell? ⟨w.heap.size, 1, none⟩ = some (.int .u64 (bi row.r)) := (set_off hne).trans a1
          have b0 : (wr.setCell ⟨gx, j * 2, none⟩ (.int .u64 ((e.m ^^^ row.m : Nat) : Int))).cell? ⟨w.heap.size, 0, none⟩ = some (.int .u64 row.m) := (set_off hne).trans a0
          have b2 : (wr.setCell ⟨gx, j * 2, none⟩ (.int .u64 ((e.m ^^^ row.m : Nat) : Int))).cell? ⟨gx, j * 2 + 1, none⟩ = some (.int .u64 (bi e.r)) := (set_off2 (by omega)).trans k1
          have HB0 := Lib.hid ((set_off (o := j * 2 + 1) (u := .int .u64 (bi (e.r ^^ row.r))) (g := gx) (o' := 0) hne).trans b0)
          have HB1 := Lib.hid ((set_off (o := j * 2 + 1) (u := .int .u64 (bi (e.r ^^ row.r))) (g := gx) (o' := 1) hne).trans b1)
          clear he hT ht
          go_wp2
          go_still_tail 10, (by kernel_rfl)
          go_wp2
          have c1 : (wr.setCell ⟨gx, j * 2, none⟩ (.int .u64 ((e.m ^^^ row.m : Nat) : Int))).drew.drew.cell? ⟨w.heap.size, 1, none⟩ = some (.int .u64 (bi row.r)) := b1
          have c2 : (wr.setCell ⟨gx, j * 2, none⟩ (.int .u64 ((e.m ^^^ row.m : Nat) : Int))).drew.drew.cell? ⟨gx, j * 2 + 1, none⟩ = some (.int .u64 (bi e.r)) := b2
          have c3 : (wr.setCell ⟨gx, j * 2, none⟩ (.int .u64 ((e.m ^^^ row.m : Nat) : Int))).drew.drew.frozen? ⟨gx, j * 2 + 1, none⟩ = false := (World.frozen?_setCell _ _ _ _).trans (z0 _)
          refine region_st 10 (by kernel_rfl) (by kernel_rfl) (fun w8 hw8 => ?_)
          rw [← hw8] at c1 c2 c3
          repeat still_step
          refine wpStill_nil ?_
          go_wp2
          subst hw8
          go_roundw
          case rel => exact ⟨j + 1, by omega, by go_num, gtrans hg (gdrew (gdrew (gset (gset (World.grownBy.refl wr (some gx)) _ _) _ _))), HB0.out, HB1.out, Lib.hid (OwnL.qt HS.out ⟨2, rfl⟩)⟩
          case measure => simp [intOf]; omega
      · obtain rfl : j = l.length := by omega
        rw [mapT_end] at HO
        go_wp2
        exact bodyPost_end (results_none rfl _ _ _) rfl ⟨rfl, HO.out, hg⟩
end Go.Proofs.YtfcdienphillnaaGreat
namespace Go.Proofs.YtfcdienphillnaaGreat
set_option linter.unusedVariables false
set_option linter.unusedSimpArgs false
open Go.RowKit
def redQ (e : TypeId) (κ : IntKind) (w : World) (X : Option (List Rw)) (r : Ending) (w' : World) : Prop := ∃ v', r = .returned (.tuple #[v', .bool X.isSome]) ∧ RowL κ e w.heap.size w' v' (X.getD []) ∧ Below w.heap.size w w'
end Go.Proofs.YtfcdienphillnaaGreat
namespace Go.Proofs.YtfcdienphillnaaGreat
set_option linter.unusedVariables false
set_option linter.unusedSimpArgs false
open Go.RowKit
def clrT (q kn : Rw) : Rw := clr (fun _ => top q.m) kn q
theorem clrT_yes {q kn : Rw} (h : kn.m.testBit (top q.m) = true) : clrT q kn = kn.add q := by rw [clrT, clr, if_pos h]
theorem clrT_no {q kn : Rw} (h : kn.m.testBit (top q.m) = false) : clrT q kn = kn := by rw [clrT, clr, if_neg (by rw [h]; decide)]
set_option maxRecDepth 20000 in
set_option maxHeartbeats 8000000 in
theorem red_i (l : List Rw) (v : Value) (w : World) (h : RowsAt .i64 w v l) (hl : ∀ e ∈ l, e.m < 18446744073709551616) (hn : l.length ≤ 1048576) :
    Calls Tryz.prog 178 #[v, .func (.func 180) #[] #[]] w fun e w' => redQ 224 .i64 w (redI top [] l) e w' := by
  obtain ⟨i0, hi, hz0, hz1, hz2⟩ := info_parts rowi_info
  obtain ⟨A, cA, rfl, hA⟩ := h
  have HL := Lib.hid hl
  clear hl
  go_enter Tryz.func178, Tryz.ntmps178
  go_wp2
  go_loopw [15, 6] (fun i x wr => ∃ (k : Nat) (ol : List Rw), k ≤ l.length ∧ i = .int .i64 k ∧ ol.length ≤ k ∧ Below w.heap.size w wr ∧ Hid (RowL .i64 224 w.heap.size wr x ol) ∧ Hid (Red top ol) ∧ Hid (redI top [] l = redI top ol (l.drop k))) (fun i _ _ => l.length - (intOf i).toNat)
  case atStart => exact ⟨0, [], by omega, rfl, by simp, Below.refl _ _, Lib.hid OwnL.of_nil, Lib.hid Red.nil, Lib.hid rfl⟩
  case round =>
    obtain ⟨k, ol, hk, rfl, holk, hb, HO, HR, HK⟩ := hrel
    have zr := hb.size
    obtain ⟨Ax, cx, rfl, hAx⟩ := OwnL.shape HO.out
    by_cases hlt : k < l.length
    · obtain ⟨r, hr⟩ : ∃ r, l[k]? = some r := ⟨l[k], List.getElem?_eq_getElem hlt⟩
      obtain ⟨g, rfl, hg, hcc⟩ := hA.resolve_left (by intro h0; rw [h0] at hlt; simp at hlt)
      have p0 := (hb.cell (p := ⟨g, _, none⟩) hg).trans (hcc k r hr).1
      have p1 := (hb.cell (p := ⟨g, _, none⟩) hg).trans (hcc k r hr).2
      have hrl := HL.out r (List.mem_of_getElem? hr)
      have HX := Lib.hid hr
      have HOLT := Lib.hid (fun e he => show e.m < 18446744073709551616 from HR.out.lt e he)
      have HFC := Lib.hid (fold_clr ol r HR.out (u := 64) (fun e he => HR.out.lt e he) hrl)
      clear hr
      have hob : Below wr.heap.size wr (wr.alloc (.cells #[.int .u64 r.m, .int .i64 (bi r.r)] 224)) := Below.alloc (Below.refl _ _) (Nat.le_refl _) _
      have b0 : (wr.alloc (.cells #[.int .u64 r.m, .int .i64 (bi r.r)] 224)).cell? ⟨wr.heap.size, 0, none⟩ = some (.int .u64 r.m) := by simp [go_sem]
      have b1 : (wr.alloc (.cells #[.int .u64 r.m, .int .i64 (bi r.r)] 224)).cell? ⟨wr.heap.size, 1, none⟩ = some (.int .i64 (bi r.r)) := by simp [go_sem]
      have f0 : (wr.alloc (.cells #[.int .u64 r.m, .int .i64 (bi r.r)] 224)).frozen? ⟨wr.heap.size, 0, none⟩ = false := by simp [go_sem]
      have f1 : (wr.alloc (.cells #[.int .u64 r.m, .int .i64 (bi r.r)] 224)).frozen? ⟨wr.heap.size, 1, none⟩ = false := by simp [go_sem]
      have zz : wr.heap.size < (wr.alloc (.cells #[.int .u64 r.m, .int .i64 (bi r.r)] 224)).heap.size := by simp
      go_wp2
      generalize hwo : wr = wo at *; clear hwo
      go_loopw [21] (fun i wr => ∃ (j : Nat) (q : Rw), j ≤ ol.length ∧ i = .int .i64 j ∧ Below wo.heap.size wo wr ∧ wo.heap.size < wr.heap.size ∧ q.m < 18446744073709551616 ∧ wr.cell? ⟨wo.heap.size, 0, none⟩ = some (.int .u64 q.m) ∧ wr.cell? ⟨wo.heap.size, 1, none⟩ = some (.int .i64 (bi q.r)) ∧ wr.frozen? ⟨wo.heap.size, 0, none⟩ = false ∧ wr.frozen? ⟨wo.heap.size, 1, none⟩ = false ∧ Hid (ol.foldl (clr top) r = (ol.drop j).foldl (clr top) q)) (fun i _ => ol.length - (intOf i).toNat)
      case atStart => exact ⟨0, r, by omega, rfl, hob, zz, hrl, b0, b1, f0, f1, Lib.hid rfl⟩
      case round =>
        clear hob b0 b1 f0 f1 zz
        obtain ⟨j, q, hj, rfl, hob, zz, hql, b0, b1, f0, f1, HF⟩ := hrel
        by_cases hltj : j < ol.length
        · obtain ⟨kn, hkn⟩ : ∃ kn, ol[j]? = some kn := ⟨ol[j], List.getElem?_eq_getElem hltj⟩
          obtain ⟨gx, rfl, hgx1, hgx2⟩ := hAx.resolve_left (by intro h0; rw [h0] at hltj; simp at hltj)
          have k0 := (hob.cell (p := ⟨gx, _, none⟩) hgx2).trans (OwnL.at1 (rc_len .i64) HO.out hkn (j := 0) rfl)
          have k1 := (hob.cell (p := ⟨gx, _, none⟩) hgx2).trans (OwnL.at1 (rc_len .i64) HO.out hkn (j := 1) rfl)
          simp only [Nat.add_zero] at k0
          have hknl := HOLT.out kn (List.mem_of_getElem? hkn)
          have hkn0 : kn.m ≠ 0 := by
            intro e0
            have := HR.out.on kn (List.mem_of_getElem? hkn)
            rw [e0] at this; simp at this
          have HT := Lib.hid (fun w' => top_i kn.m w' hkn0 hknl)
          have htl := top_lt hkn0 hknl
          obtain ⟨x0, x1, x2, x3, x4, x5⟩ := box2 wr (.int .u64 kn.m) (.int .i64 (bi kn.r)) 224
          have hob' := hob.trans (x4.mono (by omega))
          have b0' := (x4.cell (p := ⟨wo.heap.size, 0, none⟩) zz).trans b0
          have b1' := (x4.cell (p := ⟨wo.heap.size, 1, none⟩) zz).trans b1
          have f0' := (x4.frozen (p := ⟨wo.heap.size, 0, none⟩) zz).trans f0
          have f1' := (x4.frozen (p := ⟨wo.heap.size, 1, none⟩) zz).trans f1
          have hpw : 2 ^ top kn.m < 18446744073709551616 := Nat.lt_of_lt_of_le (Nat.pow_lt_pow_right (by omega) htl) (by decide)
          have hand := u64_and_nat q.m (2 ^ top kn.m) hql hpw
          rw [and_pow_eq] at hand
          cases ht : q.m.testBit (top kn.m)
          · rw [ht, if_neg (by decide)] at hand
            have HN := fo_no hkn HF ht
            have hand0 : bits .and .u64 (q.m : Int) ((2 ^ top kn.m : Nat) : Int) = 0 := hand
            generalize 2 ^ top kn.m = pw at *
            clear hkn ht hand x2 x3 x1
            go_wp2
            refine region_s0 (by kernel_rfl) (by kernel_rfl) (fun w8 hw8 => ?_)
            rw [← hw8] at x0 x5 b0' b1' f0' f1' hob'
            clear hw8 x4 b0 b1 f0 f1 hob
            repeat still_step
            still_call (still_c (HT.out _))
            repeat still_step
            refine wpStill_nil ?_
            go_wp2
            go_roundw
            case rel => exact ⟨j + 1, q, by omega, by go_num, hob', by omega, hql, b0', b1', f0', f1', HN⟩
            case measure => simp [intOf]; omega
          · rw [ht, if_pos rfl] at hand
            have HN := fo_yes hkn HF ht
            have hp0 : (((2 ^ top kn.m : Nat) : Int) != 0) = true := by
              have := Nat.two_pow_pos (top kn.m)
              rw [bne_iff_ne]; omega
            have hxm := u64_xor_nat q.m kn.m hql hknl
            have hxr := bi_xor q.r kn.r
            have hql' := xor64 hql hknl
            generalize 2 ^ top kn.m = pw at *
            clear hkn ht x2 x3
            go_wp2
            refine region_s0 (by kernel_rfl) (by kernel_rfl) (fun w8 hw8 => ?_)
            rw [← hw8] at x0 x1 x5 b0' b1' f0' f1' hob'
            clear hw8 x4 b0 b1 f0 f1 hob
            repeat still_step
            still_call (still_c (HT.out _))
            repeat still_step
            refine wpStill_nil ?_
            go_wp2
            go_roundw
            case rel => exact ⟨j + 1, q.add kn, by omega, by go_num, Below.setCell (Below.setCell hob' (Nat.le_refl _) _) (Nat.le_refl _) _, by simp; omega, hql', by simp [go_sem, b0', b1']; rfl, by simp [go_sem, b0', b1']; rfl, by rw [World.frozen?_setCell, World.frozen?_setCell]; exact f0', by rw [World.frozen?_setCell, World.frozen?_setCell]; exact f1', HN⟩
            case measure => simp [intOf]; omega
        · obtain rfl : j = ol.length := by omega
          have HQ := Lib.hid (fo_end (Nat.le_refl _) HF)
          have HP := HFC.out
          rw [HQ.out] at HP
          obtain ⟨_, _, h3, _⟩ := HP
          clear HF HFC p0 p1
          cases hz : decide (q.m = 0)
          · have hm0 := of_decide_eq_false hz
            have HMO := Lib.hid (HR.out.more piv_top hm0 hql h3)
            have HN := rd_more HX.out HK HQ.out hm0
            have HT := Lib.hid (fun w' => top_i q.m w' hm0 hql)
            have htl := top_lt hm0 hql
            have hpw : 2 ^ top q.m < 18446744073709551616 := Nat.lt_of_lt_of_le (Nat.pow_lt_pow_right (by omega) htl) (by decide)
            have hq0 : ((q.m : Int) == 0) = false := by rw [beq_eq_false_iff_ne]; omega
            have hmap : ol.map (fun k => clr (fun _ => top q.m) k q) = ol.map (clrT q) := rfl
            rw [hmap] at HMO HN
            have HO3 : Hid (RowL .i64 224 w.heap.size wr (.slice Ax ol.length cx) (mapT (clrT q) 0 ol)) := by rw [mapT_zero]; exact Lib.hid (HO.out.below hob)
            have hbb := hb.trans (hob.mono zr)
            have zo := hob.size
            clear HO hz hmap hob hb HR HX HK HQ h3
            go_wp2
            generalize hwp : wr = wp at *; clear hwp
            go_loopw [53] (fun i wr => ∃ j : Nat, j ≤ ol.length ∧ i = .int .i64 j ∧ Below w.heap.size w wr ∧ wo.heap.size < wr.heap.size ∧ wr.cell? ⟨wo.heap.size, 0, none⟩ = some (.int .u64 q.m) ∧ wr.cell? ⟨wo.heap.size, 1, none⟩ = some (.int .i64 (bi q.r)) ∧ Hid (RowL .i64 224 w.heap.size wr (.slice Ax ol.length cx) (mapT (clrT q) j ol))) (fun i _ => ol.length - (intOf i).toNat)
            case atStart => exact ⟨0, by omega, rfl, hbb, zz, b0, b1, HO3⟩
            case round =>
              clear HO3 hbb zz b0 b1 f0 f1
              obtain ⟨j, hj, rfl, hb, zz, b0, b1, HO⟩ := hrel
              have zw := hb.size
              by_cases hltj : j < ol.length
              · obtain ⟨kn, hkn⟩ : ∃ kn, ol[j]? = some kn := ⟨ol[j], List.getElem?_eq_getElem hltj⟩
                obtain ⟨gx, rfl, hgx1, hgx2⟩ := hAx.resolve_left (by intro h0; rw [h0] at hltj; simp at hltj)
                have hkT := mapT_get (F := clrT q) hkn
                have k0 := OwnL.at1 (rc_len .i64) HO.out hkT (j := 0) rfl
                have k1 := OwnL.at1 (rc_len .i64) HO.out hkT (j := 1) rfl
                simp only [Nat.add_zero] at k0
                have hknl := HOLT.out kn (List.mem_of_getElem? hkn)
                obtain ⟨x0, x1, x2, x3, x4, x5⟩ := box2 wr (.int .u64 kn.m) (.int .i64 (bi kn.r)) 224
                have hb' := hb.trans (x4.mono zw)
                have b0' := (x4.cell (p := ⟨wo.heap.size, 0, none⟩) zz).trans b0
                have b1' := (x4.cell (p := ⟨wo.heap.size, 1, none⟩) zz).trans b1
                have HO' := Lib.hid (OwnL.below HO.out x4)
                have hand := u64_and_nat kn.m (2 ^ top q.m) hknl hpw
                rw [and_pow_eq] at hand
                cases ht : kn.m.testBit (top q.m)
                · rw [ht, if_neg (by decide)] at hand
                  have hand0 : bits .and .u64 (kn.m : Int) ((2 ^ top q.m : Nat) : Int) = 0 := hand
                  rw [← mapT_same hkn (clrT_no ht)] at HO'
                  generalize 2 ^ top q.m = pw at *
                  clear hkn hkT ht hand x2 x3 x1
                  go_wp2
                  refine region_s0 (by kernel_rfl) (by kernel_rfl) (fun w8 hw8 => ?_)
                  rw [← hw8] at x0 x5 b0' b1' hb' HO'
                  clear hw8 x4 b0 b1 hb HO
                  repeat still_step
                  still_call (still_c (HT.out _))
                  repeat still_step
                  refine wpStill_nil ?_
                  go_wp2
                  go_roundw
                  case rel => exact ⟨j + 1, by omega, by go_num, hb', by omega, b0', b1', HO'⟩
                  case measure => simp [intOf]; omega
                · rw [ht, if_pos rfl] at hand
                  have hp0 : (((2 ^ top q.m : Nat) : Int) != 0) = true := by
                    have := Nat.two_pow_pos (top q.m)
                    rw [bne_iff_ne]; omega
                  have hxm := u64_xor_nat kn.m q.m hknl hql
                  have hxr := bi_xor kn.r q.r
                  generalize 2 ^ top q.m = pw at *
                  have HM := Lib.hid (mapT_next (F := clrT q) hkn)
                  rw [clrT_yes ht] at HM
                  have HT2 := Lib.hid hkT
                  have hgw : gx < wr.heap.size := Nat.lt_trans hgx2 zz
                  have k0' := (x4.cell (p := ⟨gx, _, none⟩) hgw).trans k0
                  have k1' := (x4.cell (p := ⟨gx, _, none⟩) hgw).trans k1
                  clear hkn hkT ht x2 x3
                  go_wp2
                  refine region_s0 (by kernel_rfl) (by kernel_rfl) (fun w8 hw8 => ?_)
                  rw [← hw8] at x0 x1 x5 b0' b1' hb' HO' k0' k1'
                  clear hw8 x4 b0 b1 hb HO
                  repeat still_step
                  still_call (still_c (HT.out _))
                  repeat still_step
                  refine wpStill_nil ?_
                  have HS := Lib.hid (OwnL.set2 (a' := kn.add q) HO'.out HT2.out)
                  rw [HM.out] at HS
                  have z0 := fun j => OwnL.frozen (j := j) HO'.out
                  go_wp2
                  go_roundw
                  case rel => exact ⟨j + 1, by omega, by go_num, Below.setCell (Below.setCell hb' hgx1 _) hgx1 _, by simp; omega, by rw [World.cell?_setCell_other _ _ _ _ (by intro e; injection e with e _ _; omega), World.cell?_setCell_other _ _ _ _ (by intro e; injection e with e _ _; omega)]; exact b0', by rw [World.cell?_setCell_other _ _ _ _ (by intro e; injection e with e _ _; omega), World.cell?_setCell_other _ _ _ _ (by intro e; injection e with e _ _; omega)]; exact b1', HS⟩
                  case measure => simp [intOf]; omega
              · obtain rfl : j = ol.length := by omega
                rw [mapT_end] at HO
                have hml : (ol.map (clrT q)).length ≤ 1048576 := by simp; omega
                go_wp2_with (at_builtin; refine wpList_app1 (rc .i64) 2 (rc_len .i64) _ rfl _ _ _ rfl w.heap.size 224 i0 (.agg #[.int .u64 0, .int .i64 0]) 16 Tryz.underlying218 hi hz0 hz1 hz2 rfl (by decide) _ (ol.map (clrT q)) rfl (HO.out.alloc _) _ 1 q rfl ?_ (rc_one .i64 _) (by omega) (by omega) (by simp; omega) ?_; (· exact rowc_news .i64 q.m q.r (by simp) (by simp)); intro v' w8 how8 hg8; have hg8' : Below w.heap.size w w8 := own_grown_below (HO.out.alloc (.cells #[.int .u64 q.m, .int .i64 (bi q.r)] 224)) (Below.alloc hb zw _) hg8 (Nat.le_refl _) (by simp; omega); clear hg8)
                go_roundw
                case rel => exact ⟨k + 1, ol.map (clrT q) ++ [q], by omega, by go_num, by simp; omega, hg8', Lib.hid how8, HMO, HN⟩
                case measure => simp [intOf]; omega
          · have hm0 := of_decide_eq_true hz
            cases hq : q.r
            · have HN := rd_skip HX.out HK HQ.out hm0 hq
              rw [hm0] at b0
              rw [hq, bi_f] at b1
              clear hz hm0 hq
              go_wp2
              go_roundw
              case rel => exact ⟨k + 1, ol, by omega, by go_num, by omega, hb.trans (hob.mono zr), Lib.hid (HO.out.below hob), HR, HN⟩
              case measure => simp [intOf]; omega
            · have HE := rd_none HX.out HK HQ.out hm0 hq
              rw [hm0] at b0
              rw [hq, bi_t] at b1
              clear hz hm0 hq
              go_wp2
              exact bodyPost_ret (v := .tuple #[.slice none 0 0, .bool false]) (by simp [results, Tryz.results178, go_sem] <;> rfl) rfl ⟨_, by rw [HE]; rfl, by rw [HE]; exact OwnL.of_nil, hb.trans (hob.mono zr)⟩
    · have HE := rd_end (by omega) HK
      have HO2 := HO.out
      go_wp2
      exact bodyPost_ret (v := .tuple #[.slice Ax ol.length cx, .bool true]) (by simp [results, Tryz.results178, go_sem] <;> rfl) rfl ⟨_, by rw [HE]; rfl, by rw [HE]; exact HO2, hb⟩
end Go.Proofs.YtfcdienphillnaaGreat
