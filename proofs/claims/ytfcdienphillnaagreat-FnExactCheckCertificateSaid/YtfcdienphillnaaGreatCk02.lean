/- Sources of a certificate as lists. The helpers of the laws over impl.Source: sizes, copies, comparison, marks. Printed by gen_flat.py. The laws' own helpers over a certificate. -/
import Derived.Test.YtfcdienphillnaaGreatCk01
namespace Go.Proofs.YtfcdienphillnaaGreat
set_option linter.unusedVariables false
set_option linter.unusedSimpArgs false
open Go.RowKit
structure Src where
  kind : Int
  sector : Int
  dump : Int
def Src.cells (e : Src) : List Value := [.int .i64 e.kind, .int .i64 e.sector, .int .i64 e.dump]
end Go.Proofs.YtfcdienphillnaaGreat
namespace Go.Proofs.YtfcdienphillnaaGreat
set_option linter.unusedVariables false
set_option linter.unusedSimpArgs false
open Go.RowKit

theorem Src.len (e : Src) : e.cells.length = 3 := rfl
def Src.wt (e : Src) : Nat := 0
def Src.wts (l : List Src) : Nat := (l.map Src.wt).foldr (· + ·) 0
theorem Src.wts_drop {l : List Src} {k : Nat} {e : Src} (he : l[k]? = some e) : Src.wts (l.drop k) = Src.wt e + Src.wts (l.drop (k + 1)) := by
  obtain ⟨h, rfl⟩ := List.getElem?_eq_some_iff.1 he
  rw [List.drop_eq_getElem_cons h]; rfl
theorem Src.info : (Tryz.prog.info? 83).map (fun i => (i.zero, i.size, i.bytes)) = some (some (.agg #[.int .i64 0, .int .i64 0, .int .i64 0]), 3, 24) := by kernel_rfl
def Src.zero : Src := ⟨0, 0, 0⟩
instance : Inhabited Src := ⟨Src.zero⟩

theorem Src.wts_zero (l : List Src) : Src.wts l = 0 := by
  induction l with
  | nil => rfl
  | cons a l ih => show 0 + Src.wts l = 0; rw [ih]
theorem szSourceS (l : List Src) (v : Value) (x0 : Int) (w : World) (hr : RawL Src.cells 3 w v l) (hx : 0 ≤ x0 ∧ x0 ≤ 1048576) :
    Calls Tryz.prog 41 #[v, .int .i64 x0] w fun e w' => e = .returned (.int .i64 (szR x0 (l.length + Src.wts l))) ∧ Below w.heap.size w w' := by
  obtain ⟨hx0, hx1⟩ := hx
  obtain ⟨A, c, rfl, hmax, hr⟩ := hr
  clear hr
  unfold maxLen at hmax
  rw [Src.wts_zero]
  by_cases hlen : (l.length : Int) ≤ x0
  · go_enter Tryz.func41, Tryz.ntmps41
    go_wp2
    go_ret
    exact ⟨ret_int (by rw [szR_yes (by omega)]; omega), Below.refl _ _⟩
  · go_enter Tryz.func41, Tryz.ntmps41
    go_wp2
    go_ret
    exact ⟨ret_int (by rw [szR_no (by omega)]), Below.refl _ _⟩

set_option maxHeartbeats 1000000 in
theorem toSource (e : Src) (w : World) :
    Calls Tryz.prog 83 #[.agg #[.int .i64 e.kind, .int .i64 e.sector, .int .i64 e.dump]] w fun e' w' => e' = .returned (.agg #[.int .i64 e.kind, .int .i64 e.sector, .int .i64 e.dump]) ∧ Below w.heap.size w w' := by
  go_enter Tryz.func83, Tryz.ntmps83
  go_wp2
  exact bodyPost_ret (v := .agg #[.int .i64 e.kind, .int .i64 e.sector, .int .i64 e.dump]) (by simp [results, Tryz.results83, go_sem]) rfl ⟨rfl, (by repeat (first | exact Below.refl _ _ | refine Below.alloc ?_ (by first | omega | (simp; done) | (simp; omega)) _ | apply Below.drew | apply below_drewN | refine Below.setCell ?_ (by first | omega | (simp; done) | (simp; omega)) _ | refine Below.trans ?_ (Below.mono (by assumption) (by first | omega | (simp; done) | (simp; omega)))))⟩

set_option maxHeartbeats 2000000 in
theorem toSourceS (l : List Src) (v : Value) (w : World) (hr : RawL Src.cells 3 w v l) (hn : l.length ≤ 1048576) :
    Calls Tryz.prog 49 #[v] w fun e w' => RetL Src.cells 3 83 w l e w' := by
  obtain ⟨i0, hi, hz0, hz1, hz2⟩ := info_parts Src.info
  obtain ⟨A, c, rfl, hmax, hr⟩ := hr
  rcases hr with rfl | ⟨b, o, rfl, hlt, hc⟩
  · go_enter Tryz.func49, Tryz.ntmps49
    go_wp2_with (at_make; refine wpList_make_full _ rfl _ _ _ rfl w.heap.size 83 i0 (.agg #[.int .i64 0, .int .i64 0, .int .i64 0]) 3 Tryz.underlying45 hi hz0 hz1 .i64 .i64 _ _ 0 rfl rfl rfl rfl (by omega) (by unfold maxLen; omega) (Nat.le_refl _) ?_; intro w1 hown hgrow)
    refine wp_loop_once ?_
    go_wp2
    go_ret
    refine ⟨_, rfl, ?_, (Below.refl _ _).grown hgrow (Nat.le_refl _) (by simp)⟩
    rw [made_flat (f := Src.cells) Src.len (by omega) Src.zero (Value.agg #[.int .i64 0, .int .i64 0, .int .i64 0]).cells rfl] at hown
    exact hown
  · go_enter Tryz.func49, Tryz.ntmps49
    go_wp2_with (at_make; refine wpList_make_full _ rfl _ _ _ rfl w.heap.size 83 i0 (.agg #[.int .i64 0, .int .i64 0, .int .i64 0]) 3 Tryz.underlying45 hi hz0 hz1 .i64 .i64 _ _ l.length rfl rfl rfl rfl (by rw [hz2]; omega) (by unfold maxLen; omega) (Nat.le_refl _) ?_; intro w1 hown hgrow)
    have hb0 : Below w.heap.size w w1 := (Below.refl _ _).grown hgrow (Nat.le_refl _) (by simp)
    rw [made_flat (f := Src.cells) Src.len (by omega) Src.zero (Value.agg #[.int .i64 0, .int .i64 0, .int .i64 0]).cells rfl] at hown
    clear hgrow
    go_loopw [4] (fun i wr => ∃ k : Nat, k ≤ l.length ∧ i = .int .i64 k ∧ Below w.heap.size w wr ∧ wr.ownsRow w.heap.size 83 3 (.slice (some ⟨w.heap.size, 0, none⟩) l.length l.length) l.length (flat Src.cells (l.take k ++ List.replicate (l.length - k) Src.zero))) (fun i _ => l.length - (intOf i).toNat)
    case atStart => exact ⟨0, by omega, rfl, hb0, by simpa using hown⟩
    case round =>
      obtain ⟨k, hk, rfl, hb, how⟩ := hrel
      clear hown hb0
      by_cases hltk : k < l.length
      · obtain ⟨e, he⟩ : ∃ e, l[k]? = some e := ⟨l[k]'(by omega), List.getElem?_eq_getElem (by omega)⟩
        have hz : w.heap.size ≤ wr.heap.size := hb.size
        have hg : w.heap.size < wr.heap.size := (how.lt _ rfl).2
        have p0 := (hb.cell (p := ⟨b, _, none⟩) hlt).trans (hc k e 0 _ he rfl)
        have p1 := (hb.cell (p := ⟨b, _, none⟩) hlt).trans (hc k e 1 _ he rfl)
        have p2 := (hb.cell (p := ⟨b, _, none⟩) hlt).trans (hc k e 2 _ he rfl)
        simp only [Nat.add_zero] at p0
        clear hc
        have HO := Lib.hid how
        clear how
        go_wp2_with (go_at_call 83; refine (toSource e _).mono ?_; rintro e' w1 ⟨rfl, hb1⟩; have HO1 := Lib.hid (World.ownsRow.kept HO.out (grown_of_below hb1 none) (by simp [Value.ownBlock])); have q0 : w1.cell? ⟨w.heap.size, k * 3, none⟩ = some (.int .i64 0) := (HO1.out.cellAt (k * 3 + 0) (by omega)).trans (flat_get Src.len (fill_get l k Src.zero hltk) (j := 0) (by omega)); have q1 : w1.cell? ⟨w.heap.size, k * 3 + 1, none⟩ = some (.int .i64 0) := (HO1.out.cellAt (k * 3 + 1) (by omega)).trans (flat_get Src.len (fill_get l k Src.zero hltk) (j := 1) (by omega)); have q2 : w1.cell? ⟨w.heap.size, k * 3 + 2, none⟩ = some (.int .i64 0) := (HO1.out.cellAt (k * 3 + 2) (by omega)).trans (flat_get Src.len (fill_get l k Src.zero hltk) (j := 2) (by omega)); have z0 := fun j => HO1.out.frozenAt j; have hz1 : w.heap.size < w1.heap.size := Nat.lt_of_lt_of_le hg hb1.size)
        go_roundw
        case rel => exact ⟨k + 1, by omega, by go_num, (by repeat (first | exact Below.refl _ _ | refine Below.alloc ?_ (by first | omega | (simp; done) | (simp; omega)) _ | apply Below.drew | apply below_drewN | refine Below.setCell ?_ (by first | omega | (simp; done) | (simp; omega)) _ | refine Below.trans ?_ (Below.mono (by assumption) (by first | omega | (simp; done) | (simp; omega))))), by rw [← fill_set l k Src.zero e he, ← flat_put Src.len _ k e (by rw [fill_len l k Src.zero hk]; exact hltk)]; exact own_put3 HO1.out (.int .i64 e.kind) (.int .i64 e.sector) (.int .i64 e.dump) (by rw [flat_len Src.len, fill_len l k Src.zero hk]; omega)⟩
        case measure => simp [intOf]; omega
      · go_wp2
        go_ret
        refine ⟨_, rfl, ?_, hb⟩
        obtain rfl : k = l.length := by omega
        simpa [OwnL] using how

set_option maxHeartbeats 1000000 in
theorem eqSource (e : Src) (w : World) :
    Calls Tryz.prog 95 #[.agg #[.int .i64 e.kind, .int .i64 e.sector, .int .i64 e.dump], .agg #[.int .i64 e.kind, .int .i64 e.sector, .int .i64 e.dump]] w fun e' w' => e' = .returned (.bool true) ∧ Below w.heap.size w w' := by
  go_enter Tryz.func95, Tryz.ntmps95
  go_wp2
  go_ret
  exact ⟨rfl, (by repeat (first | exact Below.refl _ _ | refine Below.alloc ?_ (by first | omega | (simp; done) | (simp; omega)) _ | apply Below.drew | apply below_drewN | refine Below.setCell ?_ (by first | omega | (simp; done) | (simp; omega)) _ | refine Below.trans ?_ (Below.mono (by assumption) (by first | omega | (simp; done) | (simp; omega)))))⟩

set_option maxHeartbeats 2000000 in
theorem eqSourceS (l : List Src) (va vb : Value) (Ba Bb : Nat) (w : World) (ha : OwnL Src.cells 3 83 Ba w va l) (hb0 : OwnL Src.cells 3 83 Bb w vb l) (hn : l.length ≤ 8388608) :
    Calls Tryz.prog 57 #[va, vb] w fun e w' => e = .returned (.bool true) ∧ Below w.heap.size w w' := by
  obtain ⟨A, c, rfl, hA⟩ := ha.shape
  obtain ⟨A', c', rfl, hA'⟩ := hb0.shape
  by_cases hl0 : l = []
  · subst hl0
    go_enter Tryz.func57, Tryz.ntmps57
    go_wp2
    refine wp_loop_once ?_
    go_wp2
    go_ret
    exact ⟨rfl, Below.refl _ _⟩
  · obtain ⟨ga, rfl, _, hga⟩ := hA.resolve_left hl0
    obtain ⟨gb, rfl, _, hgb⟩ := hA'.resolve_left hl0
    clear hA hA'
    go_enter Tryz.func57, Tryz.ntmps57
    go_wp2
    go_loopw [5] (fun i wr => ∃ k : Nat, k ≤ l.length ∧ i = .int .i64 k ∧ Below w.heap.size w wr) (fun i _ => l.length - (intOf i).toNat)
    case atStart => exact ⟨0, by omega, rfl, Below.refl _ _⟩
    case round =>
      obtain ⟨k, hk, rfl, hb⟩ := hrel
      by_cases hltk : k < l.length
      · obtain ⟨e, he⟩ : ∃ e, l[k]? = some e := ⟨l[k]'(by omega), List.getElem?_eq_getElem (by omega)⟩
        have hz : w.heap.size ≤ wr.heap.size := hb.size
        have r0 : ∀ x : Wb wr, x.1.cell? ⟨ga, k * 3, none⟩ = some (.int .i64 e.kind) := fun x => Wb.cell ((hb.cell (p := ⟨ga, _, none⟩) hga).trans (OwnL.cell Src.len ha (j := 0) he rfl)) x
        have s0 : ∀ x : Wb wr, x.1.cell? ⟨gb, k * 3, none⟩ = some (.int .i64 e.kind) := fun x => Wb.cell ((hb.cell (p := ⟨gb, _, none⟩) hgb).trans (OwnL.cell Src.len hb0 (j := 0) he rfl)) x
        have r1 : ∀ x : Wb wr, x.1.cell? ⟨ga, k * 3 + 1, none⟩ = some (.int .i64 e.sector) := fun x => Wb.cell ((hb.cell (p := ⟨ga, _, none⟩) hga).trans (OwnL.cell Src.len ha (j := 1) he rfl)) x
        have s1 : ∀ x : Wb wr, x.1.cell? ⟨gb, k * 3 + 1, none⟩ = some (.int .i64 e.sector) := fun x => Wb.cell ((hb.cell (p := ⟨gb, _, none⟩) hgb).trans (OwnL.cell Src.len hb0 (j := 1) he rfl)) x
        have r2 : ∀ x : Wb wr, x.1.cell? ⟨ga, k * 3 + 2, none⟩ = some (.int .i64 e.dump) := fun x => Wb.cell ((hb.cell (p := ⟨ga, _, none⟩) hga).trans (OwnL.cell Src.len ha (j := 2) he rfl)) x
        have s2 : ∀ x : Wb wr, x.1.cell? ⟨gb, k * 3 + 2, none⟩ = some (.int .i64 e.dump) := fun x => Wb.cell ((hb.cell (p := ⟨gb, _, none⟩) hgb).trans (OwnL.cell Src.len hb0 (j := 2) he rfl)) x
        go_wp2
        refine wp_region_wb (by kernel_rfl) (by kernel_rfl) ?_
        repeat (go_big_quiet_step ((go_at_call 95; exact Wb.calls (eqSource e _))))
        refine wpQuiet_nil ?_; intro w1 hw'; obtain ⟨⟨w2, hb1⟩, hw''⟩ := hw'; subst hw''
        go_wp2
        go_roundw
        case rel => exact ⟨k + 1, by omega, by go_num, (by repeat (first | exact Below.refl _ _ | refine Below.alloc ?_ (by first | omega | (simp; done) | (simp; omega)) _ | apply Below.drew | apply below_drewN | refine Below.setCell ?_ (by first | omega | (simp; done) | (simp; omega)) _ | refine Below.trans ?_ (Below.mono (by assumption) (by first | omega | (simp; done) | (simp; omega)))))⟩
        case measure => simp [intOf]; omega
      · go_wp2
        go_ret
        exact ⟨rfl, hb⟩

def Src.mark (k : Nat) : Src := ⟨((k : Nat) : Int), ((k + 1 : Nat) : Int), ((k + 2 : Nat) : Int)⟩
def Src.marks (k n : Nat) : List Src := (List.range n).map fun i => Src.mark (k + i * 3)
theorem Src.marks_len (k n : Nat) : (Src.marks k n).length = n := by simp [Src.marks]
theorem Src.marks_get (k n i : Nat) (h : i < n) : (Src.marks k n)[i]? = some (Src.mark (k + i * 3)) := by simp [Src.marks, h]
theorem Src.marks_succ (k n : Nat) : Src.marks k (n + 1) = Src.marks k n ++ [Src.mark (k + n * 3)] := by simp [Src.marks, List.range_succ]
theorem Src.mid_get (k0 k : Nat) (l : List Src) : (Src.marks k0 k ++ l.drop k)[k]? = l[k]? := by
  rw [List.getElem?_append_right (by rw [Src.marks_len]; omega), Src.marks_len, Nat.sub_self, List.getElem?_drop, Nat.add_zero]
theorem Src.mid_len (k0 k : Nat) (l : List Src) (h : k ≤ l.length) : (Src.marks k0 k ++ l.drop k).length = l.length := by simp [Src.marks_len]; omega
theorem Src.mid_set (k0 k : Nat) (l : List Src) (h : k < l.length) : (Src.marks k0 k ++ l.drop k).set k (Src.mark (k0 + k * 3)) = Src.marks k0 (k + 1) ++ l.drop (k + 1) := by
  rw [List.set_append_right _ _ (by rw [Src.marks_len]; omega), Src.marks_len, Nat.sub_self, List.drop_eq_getElem_cons h, List.set_cons_zero, Src.marks_succ, List.append_assoc]; rfl
theorem grown_transSource {a b c : World} {row : Option Nat} (h : a.grownBy b row) (k : b.grownBy c row) : a.grownBy c row :=
  ⟨k.os.trans h.os, k.tape.trans h.tape, k.output.trans h.output, Nat.le_trans h.size k.size, fun i hi hne => (k.block i (Nat.lt_of_lt_of_le hi h.size) hne).trans (h.block i hi hne)⟩
theorem grown_setSource {a w : World} {g : Nat} (h : a.grownBy w (some g)) (o : Nat) (u : Value) : a.grownBy (w.setCell ⟨g, o, none⟩ u) (some g) :=
  ⟨h.os, h.tape, h.output, by simpa [World.setCell] using h.size, fun i hi hne => (Below.heap_setCell w ⟨g, o, none⟩ u i (by rintro rfl; exact hne rfl)).trans (h.block i hi hne)⟩
def MarkedSource (B : Nat) (w : World) (v : Value) (k0 n : Nat) (e : Ending) (w' : World) : Prop :=
  e = .returned (.int .i64 ((k0 + n * 3 : Nat) : Int)) ∧ OwnL Src.cells 3 83 B w' v (Src.marks k0 n) ∧ w.grownBy w' v.ownBlock

set_option maxHeartbeats 2000000 in
theorem markSourceS (l : List Src) (v : Value) (k0 : Nat) (B : Nat) (w : World) (h : OwnL Src.cells 3 83 B w v l) (hn : l.length ≤ 8388608) (h0 : 1 ≤ k0) (hk0 : k0 ≤ 67108864) :
    Calls Tryz.prog 67 #[v, .int .i64 k0] w fun e w' => MarkedSource B w v k0 l.length e w' := by
  obtain ⟨A, c, rfl, hA⟩ := h.shape
  by_cases hl0 : l = []
  · subst hl0
    have HR : Hid (MarkedSource B w (.slice A 0 c) k0 0 (.returned (.int .i64 k0)) w) := Lib.hid ⟨by simp, h, World.grownBy.refl w _⟩
    go_enter Tryz.func67, Tryz.ntmps67
    go_wp2
    refine wp_loop_once ?_
    go_wp2
    go_ret
    exact HR.out
  · obtain ⟨g, rfl, _, hg0⟩ := hA.resolve_left hl0
    clear hA
    go_enter Tryz.func67, Tryz.ntmps67
    go_wp2
    go_loopw [5, 1] (fun i m wr => ∃ k : Nat, k ≤ l.length ∧ i = .int .i64 k ∧ m = .int .i64 ((k0 + k * 3 : Nat) : Int) ∧ w.grownBy wr (some g) ∧ wr.ownsRow B 83 3 (.slice (some ⟨g, 0, none⟩) l.length c) l.length (flat Src.cells (Src.marks k0 k ++ l.drop k))) (fun i _ _ => l.length - (intOf i).toNat)
    case atStart => exact ⟨0, by omega, rfl, by simp, World.grownBy.refl w _, by unfold OwnL at h; simpa [Src.marks] using h⟩
    case round =>
      obtain ⟨k, hk, rfl, rfl, hg, how⟩ := hrel
      by_cases hltk : k < l.length
      · obtain ⟨e, he⟩ : ∃ e, l[k]? = some e := ⟨l[k]'(by omega), List.getElem?_eq_getElem (by omega)⟩
        have HG := Lib.hid ((Src.mid_get k0 k l).trans he)
        have HO := Lib.hid how
        have HW := Lib.hid hg
        clear how hg h
        have HO1 := HO; have HG1 := HW; have q0 : wr.cell? ⟨g, k * 3, none⟩ = some (.int .i64 e.kind) := (HO1.out.cellAt (k * 3 + 0) (by omega)).trans (flat_get Src.len HG.out (j := 0) (by omega)); have q1 : wr.cell? ⟨g, k * 3 + 1, none⟩ = some (.int .i64 e.sector) := (HO1.out.cellAt (k * 3 + 1) (by omega)).trans (flat_get Src.len HG.out (j := 1) (by omega)); have q2 : wr.cell? ⟨g, k * 3 + 2, none⟩ = some (.int .i64 e.dump) := (HO1.out.cellAt (k * 3 + 2) (by omega)).trans (flat_get Src.len HG.out (j := 2) (by omega)); have z0 := fun j => HO1.out.frozenAt j; go_wp2
        go_roundw
        case rel => exact ⟨k + 1, by omega, by go_num, by congr 1; omega, grown_setSource (grown_setSource (grown_setSource HG1.out _ _) _ _) _ _, by rw [← Src.mid_set k0 k l hltk, ← flat_put Src.len _ k _ (by rw [Src.mid_len k0 k l hk]; exact hltk)]; exact own_put3 HO1.out (.int .i64 ((k0 + k * 3 : Nat) : Int)) (.int .i64 ((k0 + k * 3 + 1 : Nat) : Int)) (.int .i64 ((k0 + k * 3 + 2 : Nat) : Int)) (by rw [flat_len Src.len, Src.mid_len k0 k l hk]; omega)⟩
        case measure => simp [intOf]; omega
      · obtain rfl : k = l.length := by omega
        go_wp2
        go_ret
        exact ⟨rfl, by simpa [OwnL, Src.marks_len] using how, hg⟩

set_option maxHeartbeats 2000000 in
theorem heldSourceS (n : Nat) (v : Value) (k0 : Nat) (B : Nat) (w : World) (h : OwnL Src.cells 3 83 B w v (Src.marks k0 n)) (hn : n ≤ 8388608) (h0 : 1 ≤ k0) (hk0 : k0 ≤ 67108864) :
    Calls Tryz.prog 69 #[v, .int .i64 k0] w fun e w' => e = .returned (.int .i64 ((k0 + n * 3 : Nat) : Int)) ∧ Below w.heap.size w w' := by
  obtain ⟨A, c, rfl, hA⟩ := h.shape
  have hl : (Src.marks k0 n).length = n := Src.marks_len k0 n
  by_cases hl0 : n = 0
  · subst hl0
    have HR : Hid (Ending.returned (.int .i64 k0) = .returned (.int .i64 ((k0 + 0 * 3 : Nat) : Int))) := Lib.hid (by simp)
    go_enter Tryz.func69, Tryz.ntmps69
    go_wp2
    refine wp_loop_once ?_
    go_wp2
    go_ret
    exact ⟨HR.out, Below.refl _ _⟩
  · obtain ⟨g, rfl, _, hg0⟩ := hA.resolve_left (by intro e; rw [e] at hl; simp at hl; omega)
    have h' := h
    clear hA
    rw [hl]
    clear hl
    go_enter Tryz.func69, Tryz.ntmps69
    go_wp2
    go_loopw [5, 1] (fun i m wr => ∃ k : Nat, k ≤ n ∧ i = .int .i64 k ∧ m = .int .i64 ((k0 + k * 3 : Nat) : Int) ∧ Below w.heap.size w wr) (fun i _ _ => n - (intOf i).toNat)
    case atStart => exact ⟨0, by omega, rfl, by simp, Below.refl _ _⟩
    case round =>
      obtain ⟨k, hk, rfl, rfl, hb⟩ := hrel
      by_cases hltk : k < n
      · 
        have c0 : w.cell? ⟨g, k * 3, none⟩ = some (.int .i64 ((k0 + k * 3 : Nat) : Int)) := OwnL.cell Src.len h' (Src.marks_get k0 n k hltk) (j := 0) rfl
        have c1 : w.cell? ⟨g, k * 3 + 1, none⟩ = some (.int .i64 ((k0 + k * 3 + 1 : Nat) : Int)) := OwnL.cell Src.len h' (Src.marks_get k0 n k hltk) (j := 1) rfl
        have c2 : w.cell? ⟨g, k * 3 + 2, none⟩ = some (.int .i64 ((k0 + k * 3 + 2 : Nat) : Int)) := OwnL.cell Src.len h' (Src.marks_get k0 n k hltk) (j := 2) rfl
        clear h h'
        have s0 : wr.cell? ⟨g, k * 3, none⟩ = some (.int .i64 ((k0 + k * 3 : Nat) : Int)) := (hb.cell (p := ⟨g, _, none⟩) hg0).trans c0
        have s1 : wr.cell? ⟨g, k * 3 + 1, none⟩ = some (.int .i64 ((k0 + k * 3 + 1 : Nat) : Int)) := (hb.cell (p := ⟨g, _, none⟩) hg0).trans c1
        have s2 : wr.cell? ⟨g, k * 3 + 2, none⟩ = some (.int .i64 ((k0 + k * 3 + 2 : Nat) : Int)) := (hb.cell (p := ⟨g, _, none⟩) hg0).trans c2
        have hz : w.heap.size ≤ wr.heap.size := hb.size
        go_wp2
        go_roundw
        case rel => exact ⟨k + 1, by omega, by go_num, by congr 1; omega, (by repeat (first | exact Below.refl _ _ | refine Below.alloc ?_ (by first | omega | (simp; done) | (simp; omega)) _ | apply Below.drew | apply below_drewN | refine Below.setCell ?_ (by first | omega | (simp; done) | (simp; omega)) _ | refine Below.trans ?_ (Below.mono (by assumption) (by first | omega | (simp; done) | (simp; omega)))))⟩
        case measure => simp [intOf]; omega
      · obtain rfl : k = n := by omega
        go_wp2
        go_ret
        exact ⟨rfl, hb⟩

/-- []impl.Source in memory -/
def RSourceS : Rep (List Src) := RepL Src.cells 3 83 Src.wt (fun e => True) Src.marks
theorem r_retSourceS {F : FuncId} {args : Array Value} {w : World} {l : List Src} (h : Calls Tryz.prog F args w fun e w' => RetL Src.cells 3 83 w l e w') : Calls Tryz.prog F args w fun e w' => RSourceS.ret w l e w' := h.mono fun _ _ h => h.rep
theorem r_szSourceS (l : List Src) (v : Value) (x0 : Int) (w : World) (h : RSourceS.raw w v l) (hx : 0 ≤ x0 ∧ x0 ≤ 1048576) :
    Calls Tryz.prog 41 #[v, .int .i64 x0] w fun e w' => e = .returned (.int .i64 (szR x0 (RSourceS.wt l))) ∧ Below w.heap.size w w' := szSourceS l v x0 w h.1 hx
theorem r_toSourceS (l : List Src) (v : Value) (w : World) (h : RSourceS.raw w v l) (hn : RSourceS.wt l ≤ 1048576) :
    Calls Tryz.prog 49 #[v] w fun e w' => RSourceS.ret w l e w' := (toSourceS l v w h.1 (Nat.le_trans (Nat.le_add_right _ _) hn)).mono fun _ _ h => h.rep
theorem r_eqSourceS (l : List Src) (va vb : Value) (B E B' E' : Nat) (w : World) (ha : RSourceS.own B E w va l) (hb : RSourceS.own B' E' w vb l) (hn : RSourceS.cnt l ≤ 8388608) :
    Calls Tryz.prog 57 #[va, vb] w fun e w' => e = .returned (.bool true) ∧ Below w.heap.size w w' :=
  eqSourceS l va vb B B' w ha.1 hb.1 (by have : l.length * 3 ≤ 8388608 := hn; omega)
theorem r_markSourceS (l : List Src) (v : Value) (k0 B E : Nat) (w : World) (h : RSourceS.own B E w v l) (hn : RSourceS.cnt l ≤ 8388608) (h0 : 1 ≤ k0) (hk : k0 ≤ 67108864) :
    Calls Tryz.prog 67 #[v, .int .i64 k0] w fun e w' => RSourceS.marked B E w v k0 l e w' :=
  (markSourceS l v k0 B w h.1 (by have : l.length * 3 ≤ 8388608 := hn; omega) h0 hk).mono fun _ _ ⟨h1, h2, h3⟩ => ⟨h1, ⟨h2, h.2⟩, Chg.of_grown h3 fun g hg => ⟨(h.1.lt g hg).1, h.2 g hg⟩⟩
theorem r_heldSourceS (l : List Src) (v : Value) (k0 B E : Nat) (w : World) (h : RSourceS.own B E w v (RSourceS.mark k0 l)) (hn : RSourceS.cnt l ≤ 8388608) (h0 : 1 ≤ k0) (hk : k0 ≤ 67108864) :
    Calls Tryz.prog 69 #[v, .int .i64 k0] w fun e w' => e = .returned (.int .i64 ((k0 + RSourceS.cnt l : Nat) : Int)) ∧ Below w.heap.size w w' :=
  heldSourceS l.length v k0 B w h.1 (by have : l.length * 3 ≤ 8388608 := hn; omega) h0 hk
end Go.Proofs.YtfcdienphillnaaGreat
namespace Go.Proofs.YtfcdienphillnaaGreat
set_option linter.unusedVariables false
set_option linter.unusedSimpArgs false
open Go.RowKit

theorem Chg.set {B E : Nat} {w w' : World} (h : Chg B E w w') {g o : Nat} {u : Value} (hg : B ≤ g ∧ g < E) : Chg B E w (w'.setCell ⟨g, o, none⟩ u) :=
  ⟨h.os, h.tape, h.output, by simpa using h.size, fun i hi hne => (Below.heap_setCell _ _ _ i (by rintro rfl; exact hne hg)).trans (h.block i hi hne)⟩
theorem own_src {B E B' E' : Nat} {w : World} {v : Value} {l : List Src} (h : RSourceS.own B E w v l) (hB : B' ≤ B) (hE : E ≤ E') : RSourceS.own B' E' w v l := ⟨h.1.base hB, fun g hg => Nat.lt_of_lt_of_le (h.2 g hg) hE⟩
set_option maxHeartbeats 1000000 in
theorem szCert (l : List Src) (v : Value) (x0 : Int) (w : World) (h : RSourceS.raw w v l) (hx : 0 ≤ x0 ∧ x0 ≤ 1048576) :
    Calls Tryz.prog 10 #[.agg #[v], .int .i64 x0] w fun e w' => e = .returned (.int .i64 (szR x0 (RSourceS.wt l))) ∧ Below w.heap.size w w' := by
  have hs := r_szSourceS l v x0 _ (RSourceS.rawk h (Below.alloc (Below.refl _ _) (Nat.le_refl _) (.cells #[v] 32))) hx
  have hne : szR x0 (RSourceS.wt l) < 0 → szR x0 (RSourceS.wt l) = -1 := fun h => szR_no (szR_neg.1 h)
  generalize szR x0 (RSourceS.wt l) = r at *
  obtain ⟨⟨A, c, rfl, _⟩, _⟩ := h
  go_enter Tryz.func10, Tryz.ntmps10
  go_wp2_with (go_at_call 41; refine hs.mono ?_; rintro e w1 ⟨rfl, hb1⟩)
  · go_ret
    exact ⟨ret_int (hne (by assumption)).symm, (by repeat (first | exact Below.refl _ _ | refine Below.alloc ?_ (by first | omega | (simp; done) | (simp; omega)) _ | apply Below.drew | apply below_drewN | refine Below.setCell ?_ (by first | omega | (simp; done) | (simp; omega)) _ | refine Below.trans ?_ (Below.mono (by assumption) (by first | omega | (simp; done) | (simp; omega)))))⟩
  · go_ret
    exact ⟨rfl, (by repeat (first | exact Below.refl _ _ | refine Below.alloc ?_ (by first | omega | (simp; done) | (simp; omega)) _ | apply Below.drew | apply below_drewN | refine Below.setCell ?_ (by first | omega | (simp; done) | (simp; omega)) _ | refine Below.trans ?_ (Below.mono (by assumption) (by first | omega | (simp; done) | (simp; omega)))))⟩
set_option maxHeartbeats 1000000 in
theorem toCert (l : List Src) (v : Value) (w : World) (h : RSourceS.raw w v l) (hn : RSourceS.wt l ≤ 1048576) :
    Calls Tryz.prog 14 #[.agg #[v]] w fun e w' => ∃ v', e = .returned (.agg #[v']) ∧ RSourceS.own w.heap.size w'.heap.size w' v' l ∧ Below w.heap.size w w' := by
  have HH := Lib.hid h
  obtain ⟨⟨A, c, rfl, _⟩, _⟩ := h
  go_enter Tryz.func14, Tryz.ntmps14
  go_wp2_with (fail)
  refine (r_toSourceS l _ _ (RSourceS.rawk HH.out (by repeat (first | exact Below.refl _ _ | refine Below.alloc ?_ (by first | omega | (simp; done) | (simp; omega)) _ | apply Below.drew | apply below_drewN | refine Below.setCell ?_ (by first | omega | (simp; done) | (simp; omega)) _ | refine Below.trans ?_ (Below.mono (by assumption) (by first | omega | (simp; done) | (simp; omega)))))) hn).mono ?_; rintro e w1 ⟨v1, rfl, o1, hb1⟩
  obtain ⟨hc1, hf1⟩ := bcell hb1
  have hz1 : w.heap.size + 3 ≤ w1.heap.size := by have := hb1.size; (try simp at this); omega
  have o2 : RSourceS.own (w.heap.size + 3) w1.heap.size w1 v1 l := by simpa using o1
  clear o1
  obtain ⟨A1, c1, rfl, _⟩ := o2.1.shape
  go_wp2
  have q0 : w1.cell? ⟨w.heap.size + 1, 0, none⟩ = some (.slice none 0 0) := by rw [hc1 (w.heap.size + 1) 0 (by simp)]; simp [go_sem]
  have q1 : (w1.setCell ⟨w.heap.size + 1 + 1, 0, none⟩ (.slice A1 l.length c1)).cell? ⟨w.heap.size + 1, 0, none⟩ = some (.slice none 0 0) := by rw [World.cell?_setCell_other _ _ _ _ (by intro e; injection e with e _ _; omega)]; exact q0
  have q2 := World.cell?_setCell_same _ _ (.slice A1 l.length c1) q1
  refine bodyPost_ret (v := .agg #[.slice A1 l.length c1]) (by simp [results, Tryz.results14, go_sem, q2]; try done) rfl ⟨_, rfl, ?_, ?_⟩
  · exact own_src (RSourceS.chg o2 ((Chg.of_below (B := w.heap.size) (E := w.heap.size + 3) (Below.refl _ _)).set ⟨by omega, by omega⟩ |>.set ⟨by omega, by omega⟩) (.inr (by omega))) (by omega) (by simp)
  · exact (by repeat (first | exact Below.refl _ _ | refine Below.alloc ?_ (by first | omega | (simp; done) | (simp; omega)) _ | apply Below.drew | apply below_drewN | refine Below.setCell ?_ (by first | omega | (simp; done) | (simp; omega)) _ | refine Below.trans ?_ (Below.mono (by assumption) (by first | omega | (simp; done) | (simp; omega)))))
set_option maxHeartbeats 1000000 in
theorem eqCert (l : List Src) (va vb : Value) (B E B' E' : Nat) (w : World) (ha : RSourceS.own B E w va l) (hb : RSourceS.own B' E' w vb l) (hn : RSourceS.cnt l ≤ 8388608) :
    Calls Tryz.prog 18 #[.agg #[va], .agg #[vb]] w fun e w' => e = .returned (.bool true) ∧ Below w.heap.size w w' := by
  have hs := fun w' (h : Below w.heap.size w w') => r_eqSourceS l va vb B E B' E' w' (Rep.keep (R := RSourceS) ha h) (Rep.keep (R := RSourceS) hb h) hn
  obtain ⟨A, c, rfl, _⟩ := ha.1.shape
  obtain ⟨A', c', rfl, _⟩ := hb.1.shape
  clear ha hb
  have HS := Lib.hid hs
  clear hs
  go_enter Tryz.func18, Tryz.ntmps18
  go_wp2_with (go_at_call 57; refine (HS.out _ (by repeat (first | exact Below.refl _ _ | refine Below.alloc ?_ (by first | omega | (simp; done) | (simp; omega)) _ | apply Below.drew | apply below_drewN | refine Below.setCell ?_ (by first | omega | (simp; done) | (simp; omega)) _ | refine Below.trans ?_ (Below.mono (by assumption) (by first | omega | (simp; done) | (simp; omega)))))).mono ?_; rintro e w1 ⟨rfl, hb1⟩)
  go_ret
  exact ⟨rfl, (by repeat (first | exact Below.refl _ _ | refine Below.alloc ?_ (by first | omega | (simp; done) | (simp; omega)) _ | apply Below.drew | apply below_drewN | refine Below.setCell ?_ (by first | omega | (simp; done) | (simp; omega)) _ | refine Below.trans ?_ (Below.mono (by assumption) (by first | omega | (simp; done) | (simp; omega)))))⟩
set_option maxHeartbeats 1000000 in
theorem markCert (l : List Src) (v : Value) (k0 B E : Nat) (w : World) (h : RSourceS.own B E w v l) (hE : E ≤ w.heap.size) (hn : RSourceS.cnt l ≤ 8388608) (h0 : 1 ≤ k0) (hk : k0 ≤ 67108864) :
    Calls Tryz.prog 30 #[.agg #[v], .int .i64 k0] w fun e w' => RSourceS.marked B E w v k0 l e w' := by
  have hs := r_markSourceS l v k0 B E _ (Rep.keep (R := RSourceS) h (Below.alloc (Below.refl _ _) (Nat.le_refl _) (.cells #[v] 47))) hn h0 hk
  obtain ⟨A, c, rfl, _⟩ := h.1.shape
  clear h
  go_enter Tryz.func30, Tryz.ntmps30
  go_wp2_with (go_at_call 67; refine hs.mono ?_; rintro e w1 ⟨rfl, o1, hc1⟩)
  go_ret
  exact ⟨rfl, o1, (Chg.of_below (Below.alloc (Below.refl _ _) (Nat.le_refl _) _)).trans hc1⟩
end Go.Proofs.YtfcdienphillnaaGreat
