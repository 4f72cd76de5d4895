/- The helpers of the laws over impl.Entry: sizes, copies, comparison, marks. Printed by gen_flat.py. -/
import Derived.Test.YtkpjjohanbiagaaDoorOwn
import Derived.Test.YtkpjjohanbiagaaDoorMark
import Derived.Test.YtkpjjohanbiagaaDoorChain
namespace Go.Proofs.YtkpjjohanbiagaaDoor
set_option linter.unusedVariables false
set_option linter.unusedSimpArgs false
open Go.RowKit

theorem Ent.len (e : Ent) : e.cells.length = 4 := rfl
def Ent.wt (e : Ent) : Nat := e.verb.size
def Ent.wts (l : List Ent) : Nat := (l.map Ent.wt).foldr (· + ·) 0
theorem Ent.wts_drop {l : List Ent} {k : Nat} {e : Ent} (he : l[k]? = some e) : Ent.wts (l.drop k) = Ent.wt e + Ent.wts (l.drop (k + 1)) := by
  obtain ⟨h, rfl⟩ := List.getElem?_eq_some_iff.1 he
  rw [List.drop_eq_getElem_cons h]; rfl
theorem Ent.info : (Tryd.prog.info? 48).map (fun i => (i.zero, i.size, i.bytes)) = some (some (.agg #[.string .empty, .int .i64 0, .int .i64 0, .int .i64 0]), 4, 40) := by kernel_rfl
def Ent.zero : Ent := ⟨.empty, 0, 0, 0⟩
instance : Inhabited Ent := ⟨Ent.zero⟩

theorem szR_step_no {left : Int} {n m k : Nat} {x : Int} (H : Hid (szR left n = szR x m)) (hk : k ≤ m) (hx : szR x k < 0) : szR left n = -1 := by
  have := szR_neg.1 hx
  rw [H.out, szR_no (by omega)]
theorem szR_step_yes {left : Int} {n m m' k : Nat} {x : Int} (H : Hid (szR left n = szR x m)) (hk : m = k + m') (hx : 0 ≤ szR x k) : Hid (szR left n = szR (szR x k) m') := by
  have := szR_pos.1 hx
  refine Lib.hid ?_
  rw [H.out, szR_yes this, hk]
  unfold szR
  split <;> split <;> omega
theorem szR_le {x : Int} {k : Nat} (h : x ≤ 1048576) : szR x k ≤ 1048576 := by unfold szR; split <;> omega
set_option maxHeartbeats 1000000 in
theorem eqEntry (e : Ent) (w : World) :
    Calls Tryd.prog 39 #[.agg #[.string e.verb, .int .i64 e.before, .int .i64 e.after, .int .i64 e.chain], .agg #[.string e.verb, .int .i64 e.before, .int .i64 e.after, .int .i64 e.chain]] w fun e' w' => e' = .returned (.bool true) ∧ Below w.heap.size w w' := by
  go_enter Tryd.func39, Tryd.ntmps39
  go_wp2
  go_ret
  exact ⟨rfl, (by repeat (first | exact Below.refl _ _ | refine Below.alloc ?_ (by first | omega | (simp; done) | (simp; omega)) _ | apply Below.drew | apply below_drewN | refine Below.setCell ?_ (by first | omega | (simp; done) | (simp; omega)) _ | refine Below.trans ?_ (Below.mono (by assumption) (by first | omega | (simp; done) | (simp; omega)))))⟩

set_option maxHeartbeats 2000000 in
theorem eqEntryS (l : List Ent) (va vb : Value) (Ba Bb : Nat) (w : World) (ha : OwnL Ent.cells 4 48 Ba w va l) (hb0 : OwnL Ent.cells 4 48 Bb w vb l) (hn : l.length ≤ 8388608) :
    Calls Tryd.prog 13 #[va, vb] w fun e w' => e = .returned (.bool true) ∧ Below w.heap.size w w' := by
  obtain ⟨A, c, rfl, hA⟩ := ha.shape
  obtain ⟨A', c', rfl, hA'⟩ := hb0.shape
  by_cases hl0 : l = []
  · subst hl0
    go_enter Tryd.func13, Tryd.ntmps13
    go_wp2
    refine wp_loop_once ?_
    go_wp2
    go_ret
    exact ⟨rfl, Below.refl _ _⟩
  · obtain ⟨ga, rfl, _, hga⟩ := hA.resolve_left hl0
    obtain ⟨gb, rfl, _, hgb⟩ := hA'.resolve_left hl0
    clear hA hA'
    go_enter Tryd.func13, Tryd.ntmps13
    go_wp2
    go_loopw [5] (fun i wr => ∃ k : Nat, k ≤ l.length ∧ i = .int .i64 k ∧ Below w.heap.size w wr) (fun i _ => l.length - (intOf i).toNat)
    case atStart => exact ⟨0, by omega, rfl, Below.refl _ _⟩
    case round =>
      obtain ⟨k, hk, rfl, hb⟩ := hrel
      by_cases hltk : k < l.length
      · obtain ⟨e, he⟩ : ∃ e, l[k]? = some e := ⟨l[k]'(by omega), List.getElem?_eq_getElem (by omega)⟩
        have hz : w.heap.size ≤ wr.heap.size := hb.size
        have r0 : ∀ x : Wb wr, x.1.cell? ⟨ga, k * 4, none⟩ = some (.string e.verb) := fun x => Wb.cell ((hb.cell (p := ⟨ga, _, none⟩) hga).trans (OwnL.cell Ent.len ha (j := 0) he rfl)) x
        have s0 : ∀ x : Wb wr, x.1.cell? ⟨gb, k * 4, none⟩ = some (.string e.verb) := fun x => Wb.cell ((hb.cell (p := ⟨gb, _, none⟩) hgb).trans (OwnL.cell Ent.len hb0 (j := 0) he rfl)) x
        have r1 : ∀ x : Wb wr, x.1.cell? ⟨ga, k * 4 + 1, none⟩ = some (.int .i64 e.before) := fun x => Wb.cell ((hb.cell (p := ⟨ga, _, none⟩) hga).trans (OwnL.cell Ent.len ha (j := 1) he rfl)) x
        have s1 : ∀ x : Wb wr, x.1.cell? ⟨gb, k * 4 + 1, none⟩ = some (.int .i64 e.before) := fun x => Wb.cell ((hb.cell (p := ⟨gb, _, none⟩) hgb).trans (OwnL.cell Ent.len hb0 (j := 1) he rfl)) x
        have r2 : ∀ x : Wb wr, x.1.cell? ⟨ga, k * 4 + 2, none⟩ = some (.int .i64 e.after) := fun x => Wb.cell ((hb.cell (p := ⟨ga, _, none⟩) hga).trans (OwnL.cell Ent.len ha (j := 2) he rfl)) x
        have s2 : ∀ x : Wb wr, x.1.cell? ⟨gb, k * 4 + 2, none⟩ = some (.int .i64 e.after) := fun x => Wb.cell ((hb.cell (p := ⟨gb, _, none⟩) hgb).trans (OwnL.cell Ent.len hb0 (j := 2) he rfl)) x
        have r3 : ∀ x : Wb wr, x.1.cell? ⟨ga, k * 4 + 3, none⟩ = some (.int .i64 e.chain) := fun x => Wb.cell ((hb.cell (p := ⟨ga, _, none⟩) hga).trans (OwnL.cell Ent.len ha (j := 3) he rfl)) x
        have s3 : ∀ x : Wb wr, x.1.cell? ⟨gb, k * 4 + 3, none⟩ = some (.int .i64 e.chain) := fun x => Wb.cell ((hb.cell (p := ⟨gb, _, none⟩) hgb).trans (OwnL.cell Ent.len hb0 (j := 3) he rfl)) x
        go_wp2
        refine wp_region_wb (by kernel_rfl) (by kernel_rfl) ?_
        repeat (go_big_quiet_step ((go_at_call 39; exact Wb.calls (eqEntry e _))))
        refine wpQuiet_nil ?_; intro w1 hw'; obtain ⟨⟨w2, hb1⟩, hw''⟩ := hw'; subst hw''
        go_wp2
        go_roundw
        case rel => exact ⟨k + 1, by omega, by go_num, (by repeat (first | exact Below.refl _ _ | refine Below.alloc ?_ (by first | omega | (simp; done) | (simp; omega)) _ | apply Below.drew | apply below_drewN | refine Below.setCell ?_ (by first | omega | (simp; done) | (simp; omega)) _ | refine Below.trans ?_ (Below.mono (by assumption) (by first | omega | (simp; done) | (simp; omega)))))⟩
        case measure => simp [intOf]; omega
      · go_wp2
        go_ret
        exact ⟨rfl, hb⟩

def Ent.mark (k : Nat) : Ent := ⟨mt k, ((k + 1 : Nat) : Int), ((k + 2 : Nat) : Int), ((k + 3 : Nat) : Int)⟩
def Ent.marks (k n : Nat) : List Ent := (List.range n).map fun i => Ent.mark (k + i * 4)
theorem Ent.marks_len (k n : Nat) : (Ent.marks k n).length = n := by simp [Ent.marks]
theorem Ent.marks_get (k n i : Nat) (h : i < n) : (Ent.marks k n)[i]? = some (Ent.mark (k + i * 4)) := by simp [Ent.marks, h]
theorem Ent.marks_succ (k n : Nat) : Ent.marks k (n + 1) = Ent.marks k n ++ [Ent.mark (k + n * 4)] := by simp [Ent.marks, List.range_succ]
theorem Ent.mid_get (k0 k : Nat) (l : List Ent) : (Ent.marks k0 k ++ l.drop k)[k]? = l[k]? := by
  rw [List.getElem?_append_right (by rw [Ent.marks_len]; omega), Ent.marks_len, Nat.sub_self, List.getElem?_drop, Nat.add_zero]
theorem Ent.mid_len (k0 k : Nat) (l : List Ent) (h : k ≤ l.length) : (Ent.marks k0 k ++ l.drop k).length = l.length := by simp [Ent.marks_len]; omega
theorem Ent.mid_set (k0 k : Nat) (l : List Ent) (h : k < l.length) : (Ent.marks k0 k ++ l.drop k).set k (Ent.mark (k0 + k * 4)) = Ent.marks k0 (k + 1) ++ l.drop (k + 1) := by
  rw [List.set_append_right _ _ (by rw [Ent.marks_len]; omega), Ent.marks_len, Nat.sub_self, List.drop_eq_getElem_cons h, List.set_cons_zero, Ent.marks_succ, List.append_assoc]; rfl
theorem grown_transEntry {a b c : World} {row : Option Nat} (h : a.grownBy b row) (k : b.grownBy c row) : a.grownBy c row :=
  ⟨k.os.trans h.os, k.tape.trans h.tape, k.output.trans h.output, Nat.le_trans h.size k.size, fun i hi hne => (k.block i (Nat.lt_of_lt_of_le hi h.size) hne).trans (h.block i hi hne)⟩
theorem grown_setEntry {a w : World} {g : Nat} (h : a.grownBy w (some g)) (o : Nat) (u : Value) : a.grownBy (w.setCell ⟨g, o, none⟩ u) (some g) :=
  ⟨h.os, h.tape, h.output, by simpa [World.setCell] using h.size, fun i hi hne => (Below.heap_setCell w ⟨g, o, none⟩ u i (by rintro rfl; exact hne rfl)).trans (h.block i hi hne)⟩
def MarkedEntry (B : Nat) (w : World) (v : Value) (k0 n : Nat) (e : Ending) (w' : World) : Prop :=
  e = .returned (.int .i64 ((k0 + n * 4 : Nat) : Int)) ∧ OwnL Ent.cells 4 48 B w' v (Ent.marks k0 n) ∧ w.grownBy w' v.ownBlock

set_option maxHeartbeats 2000000 in
theorem markEntryS (l : List Ent) (v : Value) (k0 : Nat) (B : Nat) (w : World) (h : OwnL Ent.cells 4 48 B w v l) (hn : l.length ≤ 8388608) (h0 : 1 ≤ k0) (hk0 : k0 ≤ 67108864) :
    Calls Tryd.prog 14 #[v, .int .i64 k0] w fun e w' => MarkedEntry B w v k0 l.length e w' := by
  obtain ⟨A, c, rfl, hA⟩ := h.shape
  by_cases hl0 : l = []
  · subst hl0
    have HR : Hid (MarkedEntry B w (.slice A 0 c) k0 0 (.returned (.int .i64 k0)) w) := Lib.hid ⟨by simp, h, World.grownBy.refl w _⟩
    go_enter Tryd.func14, Tryd.ntmps14
    go_wp2
    refine wp_loop_once ?_
    go_wp2
    go_ret
    exact HR.out
  · obtain ⟨g, rfl, _, hg0⟩ := hA.resolve_left hl0
    clear hA
    go_enter Tryd.func14, Tryd.ntmps14
    go_wp2
    go_loopw [5, 1] (fun i m wr => ∃ k : Nat, k ≤ l.length ∧ i = .int .i64 k ∧ m = .int .i64 ((k0 + k * 4 : Nat) : Int) ∧ w.grownBy wr (some g) ∧ wr.ownsRow B 48 4 (.slice (some ⟨g, 0, none⟩) l.length c) l.length (flat Ent.cells (Ent.marks k0 k ++ l.drop k))) (fun i _ _ => l.length - (intOf i).toNat)
    case atStart => exact ⟨0, by omega, rfl, by simp, World.grownBy.refl w _, by unfold OwnL at h; simpa [Ent.marks] using h⟩
    case round =>
      obtain ⟨k, hk, rfl, rfl, hg, how⟩ := hrel
      by_cases hltk : k < l.length
      · obtain ⟨e, he⟩ : ∃ e, l[k]? = some e := ⟨l[k]'(by omega), List.getElem?_eq_getElem (by omega)⟩
        have HG := Lib.hid ((Ent.mid_get k0 k l).trans he)
        have HO := Lib.hid how
        have HW := Lib.hid hg
        clear how hg h
        go_wp2_with (go_at_call 40; refine (mark_any (k0 + k * 4) _ (by omega) (by omega)).mono ?_; rintro e' w1 ⟨rfl, hb1⟩; have HO1 := Lib.hid (HO.out.kept (grown_of_below hb1 (none)) (by simp [Value.ownBlock])); have HG1 := Lib.hid (grown_transEntry HW.out (grown_of_below hb1 _)); have q0 : w1.cell? ⟨g, k * 4, none⟩ = some (.string e.verb) := (HO1.out.cellAt (k * 4 + 0) (by omega)).trans (flat_get Ent.len HG.out (j := 0) (by omega)); have q1 : w1.cell? ⟨g, k * 4 + 1, none⟩ = some (.int .i64 e.before) := (HO1.out.cellAt (k * 4 + 1) (by omega)).trans (flat_get Ent.len HG.out (j := 1) (by omega)); have q2 : w1.cell? ⟨g, k * 4 + 2, none⟩ = some (.int .i64 e.after) := (HO1.out.cellAt (k * 4 + 2) (by omega)).trans (flat_get Ent.len HG.out (j := 2) (by omega)); have q3 : w1.cell? ⟨g, k * 4 + 3, none⟩ = some (.int .i64 e.chain) := (HO1.out.cellAt (k * 4 + 3) (by omega)).trans (flat_get Ent.len HG.out (j := 3) (by omega)); have z0 := fun j => HO1.out.frozenAt j)
        go_roundw
        case rel => exact ⟨k + 1, by omega, by go_num, by congr 1; omega, grown_setEntry (grown_setEntry (grown_setEntry (grown_setEntry HG1.out _ _) _ _) _ _) _ _, by rw [← Ent.mid_set k0 k l hltk, ← flat_put Ent.len _ k _ (by rw [Ent.mid_len k0 k l hk]; exact hltk)]; exact own_put4 HO1.out (.string (mt (k0 + k * 4))) (.int .i64 ((k0 + k * 4 + 1 : Nat) : Int)) (.int .i64 ((k0 + k * 4 + 2 : Nat) : Int)) (.int .i64 ((k0 + k * 4 + 3 : Nat) : Int)) (by rw [flat_len Ent.len, Ent.mid_len k0 k l hk]; omega)⟩
        case measure => simp [intOf]; omega
      · obtain rfl : k = l.length := by omega
        go_wp2
        go_ret
        exact ⟨rfl, by simpa [OwnL, Ent.marks_len] using how, hg⟩

set_option maxHeartbeats 2000000 in
theorem heldEntryS (n : Nat) (v : Value) (k0 : Nat) (B : Nat) (w : World) (h : OwnL Ent.cells 4 48 B w v (Ent.marks k0 n)) (hn : n ≤ 8388608) (h0 : 1 ≤ k0) (hk0 : k0 ≤ 67108864) :
    Calls Tryd.prog 15 #[v, .int .i64 k0] w fun e w' => e = .returned (.int .i64 ((k0 + n * 4 : Nat) : Int)) ∧ Below w.heap.size w w' := by
  obtain ⟨A, c, rfl, hA⟩ := h.shape
  have hl : (Ent.marks k0 n).length = n := Ent.marks_len k0 n
  by_cases hl0 : n = 0
  · subst hl0
    have HR : Hid (Ending.returned (.int .i64 k0) = .returned (.int .i64 ((k0 + 0 * 4 : Nat) : Int))) := Lib.hid (by simp)
    go_enter Tryd.func15, Tryd.ntmps15
    go_wp2
    refine wp_loop_once ?_
    go_wp2
    go_ret
    exact ⟨HR.out, Below.refl _ _⟩
  · obtain ⟨g, rfl, _, hg0⟩ := hA.resolve_left (by intro e; rw [e] at hl; simp at hl; omega)
    have h' := h
    clear hA
    rw [hl]
    clear hl
    go_enter Tryd.func15, Tryd.ntmps15
    go_wp2
    go_loopw [5, 1] (fun i m wr => ∃ k : Nat, k ≤ n ∧ i = .int .i64 k ∧ m = .int .i64 ((k0 + k * 4 : Nat) : Int) ∧ Below w.heap.size w wr) (fun i _ _ => n - (intOf i).toNat)
    case atStart => exact ⟨0, by omega, rfl, by simp, Below.refl _ _⟩
    case round =>
      obtain ⟨k, hk, rfl, rfl, hb⟩ := hrel
      by_cases hltk : k < n
      · 
        have c0 : w.cell? ⟨g, k * 4, none⟩ = some (.string (mt (k0 + k * 4))) := OwnL.cell Ent.len h' (Ent.marks_get k0 n k hltk) (j := 0) rfl
        have c1 : w.cell? ⟨g, k * 4 + 1, none⟩ = some (.int .i64 ((k0 + k * 4 + 1 : Nat) : Int)) := OwnL.cell Ent.len h' (Ent.marks_get k0 n k hltk) (j := 1) rfl
        have c2 : w.cell? ⟨g, k * 4 + 2, none⟩ = some (.int .i64 ((k0 + k * 4 + 2 : Nat) : Int)) := OwnL.cell Ent.len h' (Ent.marks_get k0 n k hltk) (j := 2) rfl
        have c3 : w.cell? ⟨g, k * 4 + 3, none⟩ = some (.int .i64 ((k0 + k * 4 + 3 : Nat) : Int)) := OwnL.cell Ent.len h' (Ent.marks_get k0 n k hltk) (j := 3) rfl
        clear h h'
        have r0 : ∀ x : Wb wr, x.1.cell? ⟨g, k * 4, none⟩ = some (.string (mt (k0 + k * 4))) := fun x => Wb.cell ((hb.cell (p := ⟨g, _, none⟩) hg0).trans c0) x
        have hz : w.heap.size ≤ wr.heap.size := hb.size
        go_wp2
        refine wp_region_wb (by kernel_rfl) (by kernel_rfl) ?_
        repeat (go_big_quiet_step ((go_at_call 40; exact Wb.calls (mark_any (k0 + k * 4) _ (by omega) (by omega)))))
        refine wpQuiet_nil ?_; intro w1 hw'; obtain ⟨⟨w2, hb1⟩, hw''⟩ := hw'; subst hw''
        have hz2 := hb1.size
        have s1 : w1.cell? ⟨g, k * 4 + 1, none⟩ = some (.int .i64 ((k0 + k * 4 + 1 : Nat) : Int)) := (hb1.cell (p := ⟨g, _, none⟩) (Nat.lt_of_lt_of_le hg0 hz)).trans ((hb.cell (p := ⟨g, _, none⟩) hg0).trans c1)
        have s2 : w1.cell? ⟨g, k * 4 + 2, none⟩ = some (.int .i64 ((k0 + k * 4 + 2 : Nat) : Int)) := (hb1.cell (p := ⟨g, _, none⟩) (Nat.lt_of_lt_of_le hg0 hz)).trans ((hb.cell (p := ⟨g, _, none⟩) hg0).trans c2)
        have s3 : w1.cell? ⟨g, k * 4 + 3, none⟩ = some (.int .i64 ((k0 + k * 4 + 3 : Nat) : Int)) := (hb1.cell (p := ⟨g, _, none⟩) (Nat.lt_of_lt_of_le hg0 hz)).trans ((hb.cell (p := ⟨g, _, none⟩) hg0).trans c3)
        clear r0
        go_wp2
        go_roundw
        case rel => exact ⟨k + 1, by omega, by go_num, by congr 1; omega, (by repeat (first | exact Below.refl _ _ | refine Below.alloc ?_ (by first | omega | (simp; done) | (simp; omega)) _ | apply Below.drew | apply below_drewN | refine Below.setCell ?_ (by first | omega | (simp; done) | (simp; omega)) _ | refine Below.trans ?_ (Below.mono (by assumption) (by first | omega | (simp; done) | (simp; omega)))))⟩
        case measure => simp [intOf]; omega
      · obtain rfl : k = n := by omega
        go_wp2
        go_ret
        exact ⟨rfl, hb⟩

/-- []impl.Entry in memory -/
def REntryS : Rep (List Ent) := RepL Ent.cells 4 48 Ent.wt (fun e => e.verb.size ≤ maxLen) Ent.marks
theorem r_retEntryS {F : FuncId} {args : Array Value} {w : World} {l : List Ent} (h : Calls Tryd.prog F args w fun e w' => RetL Ent.cells 4 48 w l e w') : Calls Tryd.prog F args w fun e w' => REntryS.ret w l e w' := h.mono fun _ _ h => h.rep
theorem r_eqEntryS (l : List Ent) (va vb : Value) (B E B' E' : Nat) (w : World) (ha : REntryS.own B E w va l) (hb : REntryS.own B' E' w vb l) (hn : REntryS.cnt l ≤ 8388608) :
    Calls Tryd.prog 13 #[va, vb] w fun e w' => e = .returned (.bool true) ∧ Below w.heap.size w w' :=
  eqEntryS l va vb B B' w ha.1 hb.1 (by have : l.length * 4 ≤ 8388608 := hn; omega)
theorem r_markEntryS (l : List Ent) (v : Value) (k0 B E : Nat) (w : World) (h : REntryS.own B E w v l) (hn : REntryS.cnt l ≤ 8388608) (h0 : 1 ≤ k0) (hk : k0 ≤ 67108864) :
    Calls Tryd.prog 14 #[v, .int .i64 k0] w fun e w' => REntryS.marked B E w v k0 l e w' :=
  (markEntryS l v k0 B w h.1 (by have : l.length * 4 ≤ 8388608 := hn; omega) h0 hk).mono fun _ _ ⟨h1, h2, h3⟩ => ⟨h1, ⟨h2, h.2⟩, Chg.of_grown h3 fun g hg => ⟨(h.1.lt g hg).1, h.2 g hg⟩⟩
theorem r_heldEntryS (l : List Ent) (v : Value) (k0 B E : Nat) (w : World) (h : REntryS.own B E w v (REntryS.mark k0 l)) (hn : REntryS.cnt l ≤ 8388608) (h0 : 1 ≤ k0) (hk : k0 ≤ 67108864) :
    Calls Tryd.prog 15 #[v, .int .i64 k0] w fun e w' => e = .returned (.int .i64 ((k0 + REntryS.cnt l : Nat) : Int)) ∧ Below w.heap.size w w' :=
  heldEntryS l.length v k0 B w h.1 (by have : l.length * 4 ≤ 8388608 := hn; omega) h0 hk
end Go.Proofs.YtkpjjohanbiagaaDoor
