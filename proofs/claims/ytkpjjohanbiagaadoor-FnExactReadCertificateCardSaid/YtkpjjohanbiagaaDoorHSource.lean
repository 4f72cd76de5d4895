/- The helpers of the laws over impl.Source: sizes, copies, comparison, marks. Printed by gen_flat.py. -/
import Derived.Test.YtkpjjohanbiagaaDoorOwn
import Derived.Test.YtkpjjohanbiagaaDoorSrc
namespace Go.Proofs.YtkpjjohanbiagaaDoor
set_option linter.unusedVariables false
set_option linter.unusedSimpArgs false
open Go.RowKit

theorem Src.len (e : Src) : e.cells.length = 3 := rfl
def Src.wt (e : Src) : Nat := 0
def Src.wts (l : List Src) : Nat := (l.map Src.wt).foldr (· + ·) 0
theorem Src.wts_drop {l : List Src} {k : Nat} {e : Src} (he : l[k]? = some e) : Src.wts (l.drop k) = Src.wt e + Src.wts (l.drop (k + 1)) := by
  obtain ⟨h, rfl⟩ := List.getElem?_eq_some_iff.1 he
  rw [List.drop_eq_getElem_cons h]; rfl
theorem Src.info : (Tryd.prog.info? 54).map (fun i => (i.zero, i.size, i.bytes)) = some (some (.agg #[.int .i64 0, .int .i64 0, .int .i64 0]), 3, 24) := by kernel_rfl
def Src.zero : Src := ⟨0, 0, 0⟩
instance : Inhabited Src := ⟨Src.zero⟩

theorem Src.wts_zero (l : List Src) : Src.wts l = 0 := by
  induction l with
  | nil => rfl
  | cons a l ih => show 0 + Src.wts l = 0; rw [ih]
set_option maxHeartbeats 1000000 in
theorem eqSource (e : Src) (w : World) :
    Calls Tryd.prog 65 #[.agg #[.int .i64 e.kind, .int .i64 e.sector, .int .i64 e.dump], .agg #[.int .i64 e.kind, .int .i64 e.sector, .int .i64 e.dump]] w fun e' w' => e' = .returned (.bool true) ∧ Below w.heap.size w w' := by
  go_enter Tryd.func65, Tryd.ntmps65
  go_wp2
  go_ret
  exact ⟨rfl, (by repeat (first | exact Below.refl _ _ | refine Below.alloc ?_ (by first | omega | (simp; done) | (simp; omega)) _ | apply Below.drew | apply below_drewN | refine Below.setCell ?_ (by first | omega | (simp; done) | (simp; omega)) _ | refine Below.trans ?_ (Below.mono (by assumption) (by first | omega | (simp; done) | (simp; omega)))))⟩

set_option maxHeartbeats 2000000 in
theorem eqSourceS (l : List Src) (va vb : Value) (Ba Bb : Nat) (w : World) (ha : OwnL Src.cells 3 54 Ba w va l) (hb0 : OwnL Src.cells 3 54 Bb w vb l) (hn : l.length ≤ 8388608) :
    Calls Tryd.prog 35 #[va, vb] w fun e w' => e = .returned (.bool true) ∧ Below w.heap.size w w' := by
  obtain ⟨A, c, rfl, hA⟩ := ha.shape
  obtain ⟨A', c', rfl, hA'⟩ := hb0.shape
  by_cases hl0 : l = []
  · subst hl0
    go_enter Tryd.func35, Tryd.ntmps35
    go_wp2
    refine wp_loop_once ?_
    go_wp2
    go_ret
    exact ⟨rfl, Below.refl _ _⟩
  · obtain ⟨ga, rfl, _, hga⟩ := hA.resolve_left hl0
    obtain ⟨gb, rfl, _, hgb⟩ := hA'.resolve_left hl0
    clear hA hA'
    go_enter Tryd.func35, Tryd.ntmps35
    go_wp2
    go_loopw [5] (fun i wr => ∃ k : Nat, k ≤ l.length ∧ i = .int .i64 k ∧ Below w.heap.size w wr) (fun i _ => l.length - (intOf i).toNat)
    case atStart => exact ⟨0, by omega, rfl, Below.refl _ _⟩
    case round =>
      obtain ⟨k, hk, rfl, hb⟩ := hrel
      by_cases hltk : k < l.length
      · obtain ⟨e, he⟩ : ∃ e, l[k]? = some e := ⟨l[k]'(by omega), List.getElem?_eq_getElem (by omega)⟩
        have hz : w.heap.size ≤ wr.heap.size := hb.size
        have r0 : ∀ x : Wb wr, x.1.cell? ⟨ga, k * 3, none⟩ = some (.int .i64 e.kind) := fun x => Wb.cell ((hb.cell (p := ⟨ga, _, none⟩) hga).trans (OwnL.cell Src.len ha (j := 0) he rfl)) x
        have s0 : ∀ x : Wb wr, x.1.cell? ⟨gb, k * 3, none⟩ = some (.int .i64 e.kind) := fun x => Wb.cell ((hb.cell (p := ⟨gb, _, none⟩) hgb).trans (OwnL.cell Src.len hb0 (j := 0) he rfl)) x
        have r1 : ∀ x : Wb wr, x.1.cell? ⟨ga, k * 3 + 1, none⟩ = some (.int .i64 e.sector) := fun x => Wb.cell ((hb.cell (p := ⟨ga, _, none⟩) hga).trans (OwnL.cell Src.len ha (j := 1) he rfl)) x
        have s1 : ∀ x : Wb wr, x.1.cell? ⟨gb, k * 3 + 1, none⟩ = some (.int .i64 e.sector) := fun x => Wb.cell ((hb.cell (p := ⟨gb, _, none⟩) hgb).trans (OwnL.cell Src.len hb0 (j := 1) he rfl)) x
        have r2 : ∀ x : Wb wr, x.1.cell? ⟨ga, k * 3 + 2, none⟩ = some (.int .i64 e.dump) := fun x => Wb.cell ((hb.cell (p := ⟨ga, _, none⟩) hga).trans (OwnL.cell Src.len ha (j := 2) he rfl)) x
        have s2 : ∀ x : Wb wr, x.1.cell? ⟨gb, k * 3 + 2, none⟩ = some (.int .i64 e.dump) := fun x => Wb.cell ((hb.cell (p := ⟨gb, _, none⟩) hgb).trans (OwnL.cell Src.len hb0 (j := 2) he rfl)) x
        go_wp2
        refine wp_region_wb (by kernel_rfl) (by kernel_rfl) ?_
        repeat (go_big_quiet_step ((go_at_call 65; exact Wb.calls (eqSource e _))))
        refine wpQuiet_nil ?_; intro w1 hw'; obtain ⟨⟨w2, hb1⟩, hw''⟩ := hw'; subst hw''
        go_wp2
        go_roundw
        case rel => exact ⟨k + 1, by omega, by go_num, (by repeat (first | exact Below.refl _ _ | refine Below.alloc ?_ (by first | omega | (simp; done) | (simp; omega)) _ | apply Below.drew | apply below_drewN | refine Below.setCell ?_ (by first | omega | (simp; done) | (simp; omega)) _ | refine Below.trans ?_ (Below.mono (by assumption) (by first | omega | (simp; done) | (simp; omega)))))⟩
        case measure => simp [intOf]; omega
      · go_wp2
        go_ret
        exact ⟨rfl, hb⟩

def Src.mark (k : Nat) : Src := ⟨((k : Nat) : Int), ((k + 1 : Nat) : Int), ((k + 2 : Nat) : Int)⟩
def Src.marks (k n : Nat) : List Src := (List.range n).map fun i => Src.mark (k + i * 3)
theorem Src.marks_len (k n : Nat) : (Src.marks k n).length = n := by simp [Src.marks]
theorem Src.marks_get (k n i : Nat) (h : i < n) : (Src.marks k n)[i]? = some (Src.mark (k + i * 3)) := by simp [Src.marks, h]
theorem Src.marks_succ (k n : Nat) : Src.marks k (n + 1) = Src.marks k n ++ [Src.mark (k + n * 3)] := by simp [Src.marks, List.range_succ]
theorem Src.mid_get (k0 k : Nat) (l : List Src) : (Src.marks k0 k ++ l.drop k)[k]? = l[k]? := by
  rw [List.getElem?_append_right (by rw [Src.marks_len]; omega), Src.marks_len, Nat.sub_self, List.getElem?_drop, Nat.add_zero]
theorem Src.mid_len (k0 k : Nat) (l : List Src) (h : k ≤ l.length) : (Src.marks k0 k ++ l.drop k).length = l.length := by simp [Src.marks_len]; omega
theorem Src.mid_set (k0 k : Nat) (l : List Src) (h : k < l.length) : (Src.marks k0 k ++ l.drop k).set k (Src.mark (k0 + k * 3)) = Src.marks k0 (k + 1) ++ l.drop (k + 1) := by
  rw [List.set_append_right _ _ (by rw [Src.marks_len]; omega), Src.marks_len, Nat.sub_self, List.drop_eq_getElem_cons h, List.set_cons_zero, Src.marks_succ, List.append_assoc]; rfl
theorem grown_transSource {a b c : World} {row : Option Nat} (h : a.grownBy b row) (k : b.grownBy c row) : a.grownBy c row :=
  ⟨k.os.trans h.os, k.tape.trans h.tape, k.output.trans h.output, Nat.le_trans h.size k.size, fun i hi hne => (k.block i (Nat.lt_of_lt_of_le hi h.size) hne).trans (h.block i hi hne)⟩
theorem grown_setSource {a w : World} {g : Nat} (h : a.grownBy w (some g)) (o : Nat) (u : Value) : a.grownBy (w.setCell ⟨g, o, none⟩ u) (some g) :=
  ⟨h.os, h.tape, h.output, by simpa [World.setCell] using h.size, fun i hi hne => (Below.heap_setCell w ⟨g, o, none⟩ u i (by rintro rfl; exact hne rfl)).trans (h.block i hi hne)⟩
def MarkedSource (B : Nat) (w : World) (v : Value) (k0 n : Nat) (e : Ending) (w' : World) : Prop :=
  e = .returned (.int .i64 ((k0 + n * 3 : Nat) : Int)) ∧ OwnL Src.cells 3 54 B w' v (Src.marks k0 n) ∧ w.grownBy w' v.ownBlock

set_option maxHeartbeats 2000000 in
theorem markSourceS (l : List Src) (v : Value) (k0 : Nat) (B : Nat) (w : World) (h : OwnL Src.cells 3 54 B w v l) (hn : l.length ≤ 8388608) (h0 : 1 ≤ k0) (hk0 : k0 ≤ 67108864) :
    Calls Tryd.prog 36 #[v, .int .i64 k0] w fun e w' => MarkedSource B w v k0 l.length e w' := by
  obtain ⟨A, c, rfl, hA⟩ := h.shape
  by_cases hl0 : l = []
  · subst hl0
    have HR : Hid (MarkedSource B w (.slice A 0 c) k0 0 (.returned (.int .i64 k0)) w) := Lib.hid ⟨by simp, h, World.grownBy.refl w _⟩
    go_enter Tryd.func36, Tryd.ntmps36
    go_wp2
    refine wp_loop_once ?_
    go_wp2
    go_ret
    exact HR.out
  · obtain ⟨g, rfl, _, hg0⟩ := hA.resolve_left hl0
    clear hA
    go_enter Tryd.func36, Tryd.ntmps36
    go_wp2
    go_loopw [5, 1] (fun i m wr => ∃ k : Nat, k ≤ l.length ∧ i = .int .i64 k ∧ m = .int .i64 ((k0 + k * 3 : Nat) : Int) ∧ w.grownBy wr (some g) ∧ wr.ownsRow B 54 3 (.slice (some ⟨g, 0, none⟩) l.length c) l.length (flat Src.cells (Src.marks k0 k ++ l.drop k))) (fun i _ _ => l.length - (intOf i).toNat)
    case atStart => exact ⟨0, by omega, rfl, by simp, World.grownBy.refl w _, by unfold OwnL at h; simpa [Src.marks] using h⟩
    case round =>
      obtain ⟨k, hk, rfl, rfl, hg, how⟩ := hrel
      by_cases hltk : k < l.length
      · obtain ⟨e, he⟩ : ∃ e, l[k]? = some e := ⟨l[k]'(by omega), List.getElem?_eq_getElem (by omega)⟩
        have HG := Lib.hid ((Src.mid_get k0 k l).trans he)
        have HO := Lib.hid how
        have HW := Lib.hid hg
        clear how hg h
        have HO1 := HO; have HG1 := HW; have q0 : wr.cell? ⟨g, k * 3, none⟩ = some (.int .i64 e.kind) := (HO1.out.cellAt (k * 3 + 0) (by omega)).trans (flat_get Src.len HG.out (j := 0) (by omega)); have q1 : wr.cell? ⟨g, k * 3 + 1, none⟩ = some (.int .i64 e.sector) := (HO1.out.cellAt (k * 3 + 1) (by omega)).trans (flat_get Src.len HG.out (j := 1) (by omega)); have q2 : wr.cell? ⟨g, k * 3 + 2, none⟩ = some (.int .i64 e.dump) := (HO1.out.cellAt (k * 3 + 2) (by omega)).trans (flat_get Src.len HG.out (j := 2) (by omega)); have z0 := fun j => HO1.out.frozenAt j; go_wp2
        go_roundw
        case rel => exact ⟨k + 1, by omega, by go_num, by congr 1; omega, grown_setSource (grown_setSource (grown_setSource HG1.out _ _) _ _) _ _, by rw [← Src.mid_set k0 k l hltk, ← flat_put Src.len _ k _ (by rw [Src.mid_len k0 k l hk]; exact hltk)]; exact own_put3 HO1.out (.int .i64 ((k0 + k * 3 : Nat) : Int)) (.int .i64 ((k0 + k * 3 + 1 : Nat) : Int)) (.int .i64 ((k0 + k * 3 + 2 : Nat) : Int)) (by rw [flat_len Src.len, Src.mid_len k0 k l hk]; omega)⟩
        case measure => simp [intOf]; omega
      · obtain rfl : k = l.length := by omega
        go_wp2
        go_ret
        exact ⟨rfl, by simpa [OwnL, Src.marks_len] using how, hg⟩

set_option maxHeartbeats 2000000 in
theorem heldSourceS (n : Nat) (v : Value) (k0 : Nat) (B : Nat) (w : World) (h : OwnL Src.cells 3 54 B w v (Src.marks k0 n)) (hn : n ≤ 8388608) (h0 : 1 ≤ k0) (hk0 : k0 ≤ 67108864) :
    Calls Tryd.prog 37 #[v, .int .i64 k0] w fun e w' => e = .returned (.int .i64 ((k0 + n * 3 : Nat) : Int)) ∧ Below w.heap.size w w' := by
  obtain ⟨A, c, rfl, hA⟩ := h.shape
  have hl : (Src.marks k0 n).length = n := Src.marks_len k0 n
  by_cases hl0 : n = 0
  · subst hl0
    have HR : Hid (Ending.returned (.int .i64 k0) = .returned (.int .i64 ((k0 + 0 * 3 : Nat) : Int))) := Lib.hid (by simp)
    go_enter Tryd.func37, Tryd.ntmps37
    go_wp2
    refine wp_loop_once ?_
    go_wp2
    go_ret
    exact ⟨HR.out, Below.refl _ _⟩
  · obtain ⟨g, rfl, _, hg0⟩ := hA.resolve_left (by intro e; rw [e] at hl; simp at hl; omega)
    have h' := h
    clear hA
    rw [hl]
    clear hl
    go_enter Tryd.func37, Tryd.ntmps37
    go_wp2
    go_loopw [5, 1] (fun i m wr => ∃ k : Nat, k ≤ n ∧ i = .int .i64 k ∧ m = .int .i64 ((k0 + k * 3 : Nat) : Int) ∧ Below w.heap.size w wr) (fun i _ _ => n - (intOf i).toNat)
    case atStart => exact ⟨0, by omega, rfl, by simp, Below.refl _ _⟩
    case round =>
      obtain ⟨k, hk, rfl, rfl, hb⟩ := hrel
      by_cases hltk : k < n
      · 
        have c0 : w.cell? ⟨g, k * 3, none⟩ = some (.int .i64 ((k0 + k * 3 : Nat) : Int)) := OwnL.cell Src.len h' (Src.marks_get k0 n k hltk) (j := 0) rfl
        have c1 : w.cell? ⟨g, k * 3 + 1, none⟩ = some (.int .i64 ((k0 + k * 3 + 1 : Nat) : Int)) := OwnL.cell Src.len h' (Src.marks_get k0 n k hltk) (j := 1) rfl
        have c2 : w.cell? ⟨g, k * 3 + 2, none⟩ = some (.int .i64 ((k0 + k * 3 + 2 : Nat) : Int)) := OwnL.cell Src.len h' (Src.marks_get k0 n k hltk) (j := 2) rfl
        clear h h'
        have s0 : wr.cell? ⟨g, k * 3, none⟩ = some (.int .i64 ((k0 + k * 3 : Nat) : Int)) := (hb.cell (p := ⟨g, _, none⟩) hg0).trans c0
        have s1 : wr.cell? ⟨g, k * 3 + 1, none⟩ = some (.int .i64 ((k0 + k * 3 + 1 : Nat) : Int)) := (hb.cell (p := ⟨g, _, none⟩) hg0).trans c1
        have s2 : wr.cell? ⟨g, k * 3 + 2, none⟩ = some (.int .i64 ((k0 + k * 3 + 2 : Nat) : Int)) := (hb.cell (p := ⟨g, _, none⟩) hg0).trans c2
        have hz : w.heap.size ≤ wr.heap.size := hb.size
        go_wp2
        go_roundw
        case rel => exact ⟨k + 1, by omega, by go_num, by congr 1; omega, (by repeat (first | exact Below.refl _ _ | refine Below.alloc ?_ (by first | omega | (simp; done) | (simp; omega)) _ | apply Below.drew | apply below_drewN | refine Below.setCell ?_ (by first | omega | (simp; done) | (simp; omega)) _ | refine Below.trans ?_ (Below.mono (by assumption) (by first | omega | (simp; done) | (simp; omega)))))⟩
        case measure => simp [intOf]; omega
      · obtain rfl : k = n := by omega
        go_wp2
        go_ret
        exact ⟨rfl, hb⟩

/-- []impl.Source in memory -/
def RSourceS : Rep (List Src) := RepL Src.cells 3 54 Src.wt (fun e => True) Src.marks
theorem r_retSourceS {F : FuncId} {args : Array Value} {w : World} {l : List Src} (h : Calls Tryd.prog F args w fun e w' => RetL Src.cells 3 54 w l e w') : Calls Tryd.prog F args w fun e w' => RSourceS.ret w l e w' := h.mono fun _ _ h => h.rep
theorem r_eqSourceS (l : List Src) (va vb : Value) (B E B' E' : Nat) (w : World) (ha : RSourceS.own B E w va l) (hb : RSourceS.own B' E' w vb l) (hn : RSourceS.cnt l ≤ 8388608) :
    Calls Tryd.prog 35 #[va, vb] w fun e w' => e = .returned (.bool true) ∧ Below w.heap.size w w' :=
  eqSourceS l va vb B B' w ha.1 hb.1 (by have : l.length * 3 ≤ 8388608 := hn; omega)
theorem r_markSourceS (l : List Src) (v : Value) (k0 B E : Nat) (w : World) (h : RSourceS.own B E w v l) (hn : RSourceS.cnt l ≤ 8388608) (h0 : 1 ≤ k0) (hk : k0 ≤ 67108864) :
    Calls Tryd.prog 36 #[v, .int .i64 k0] w fun e w' => RSourceS.marked B E w v k0 l e w' :=
  (markSourceS l v k0 B w h.1 (by have : l.length * 3 ≤ 8388608 := hn; omega) h0 hk).mono fun _ _ ⟨h1, h2, h3⟩ => ⟨h1, ⟨h2, h.2⟩, Chg.of_grown h3 fun g hg => ⟨(h.1.lt g hg).1, h.2 g hg⟩⟩
theorem r_heldSourceS (l : List Src) (v : Value) (k0 B E : Nat) (w : World) (h : RSourceS.own B E w v (RSourceS.mark k0 l)) (hn : RSourceS.cnt l ≤ 8388608) (h0 : 1 ≤ k0) (hk : k0 ≤ 67108864) :
    Calls Tryd.prog 37 #[v, .int .i64 k0] w fun e w' => e = .returned (.int .i64 ((k0 + RSourceS.cnt l : Nat) : Int)) ∧ Below w.heap.size w w' :=
  heldSourceS l.length v k0 B w h.1 (by have : l.length * 3 ≤ 8388608 := hn; omega) h0 hk
end Go.Proofs.YtkpjjohanbiagaaDoor
