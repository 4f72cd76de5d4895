/- The helpers of the laws over impl.Source: sizes, copies, comparison, marks. Printed by gen_flat.py. The laws' own helpers over a certificate. The helpers of the laws over impl.Sector: sizes, copies, comparison, marks. Printed by gen_flat.py. The laws' own helpers over one disc, marks and rows of its box. The answers of a repair, and how two boxes are copied into the results' boxes. Helpers of the laws over evidence: sizes, and the answers as representations. RepairDisc, the implementation: the walk. -/
import Derived.Test.YtfcdienphillnaaGreatLr01
import Derived.Test.YtfcdienphillnaaGreatLr02
import Derived.Test.YtfcdienphillnaaGreatLr03
import Derived.Test.YtfcdienphillnaaGreatLr04
import Derived.Test.YtfcdienphillnaaGreatLr05
import Derived.Test.YtfcdienphillnaaGreatLr06
import Derived.Test.YtfcdienphillnaaGreatLr07
import Derived.Test.YtfcdienphillnaaGreatLr08
import Derived.Test.YtfcdienphillnaaGreatLr09
import Derived.Test.YtfcdienphillnaaGreatLr10
import Derived.Test.YtfcdienphillnaaGreatLr11
import Derived.Test.YtfcdienphillnaaGreatLr12
import Derived.Test.YtfcdienphillnaaGreatLr13
import Derived.Test.YtfcdienphillnaaGreatLr14
import Derived.Test.YtfcdienphillnaaGreatLr15
import Derived.Test.YtfcdienphillnaaGreatLr16
import Derived.Test.YtfcdienphillnaaGreatLr17
import Derived.Test.YtfcdienphillnaaGreatLr18
import Derived.Test.YtfcdienphillnaaGreatLr19
import Derived.Test.YtfcdienphillnaaGreatLr20
import Derived.Test.YtfcdienphillnaaGreatLr21
import Derived.Test.YtfcdienphillnaaGreatLr22
import Derived.Test.YtfcdienphillnaaGreatLr23
import Derived.Test.YtfcdienphillnaaGreatLr24
import Derived.Test.YtfcdienphillnaaGreatLr25
import Derived.Test.YtfcdienphillnaaGreatLr26
import Derived.Test.YtfcdienphillnaaGreatLr27
import Derived.Test.YtfcdienphillnaaGreatLr28
import Derived.Test.YtfcdienphillnaaGreatLr29
import Derived.Test.YtfcdienphillnaaGreatLr30
import Derived.Test.YtfcdienphillnaaGreatLr31
import Derived.Test.YtfcdienphillnaaGreatLr32
import Derived.Test.YtfcdienphillnaaGreatLr33
import Derived.Test.YtfcdienphillnaaGreatLr34
import Derived.Test.YtfcdienphillnaaGreatLr35
import Derived.Test.YtfcdienphillnaaGreatLr36
import Derived.Test.YtfcdienphillnaaGreatLr37
import Derived.Test.YtfcdienphillnaaGreatLr38
import Derived.Test.YtfcdienphillnaaGreatLr39
import Derived.Test.YtfcdienphillnaaGreatLr40
import Derived.Test.YtfcdienphillnaaGreatLr42
import Derived.Test.YtfcdienphillnaaGreatLr43
import Derived.WalkKit
import Derived.WalkSpells
import Derived.WalkLawsBesides
import Derived.Deep.QuietTactic
import Derived.BigQuiet
import Derived.Lib.Hide
import Derived.Laws.AppendOwnNone
import Derived.StillTailTactics
import Derived.Laws.BytesArg
import Derived.Lib.ConvBytes
import Derived.Shelf.Strings.Repeat
import Derived.Deep.WholeRow
import Derived.Maps.AppendAt
import Derived.Shelf.Strconv.Itoa0
import Derived.Deep.RegionHeld3
import Derived.Deep.AppendLies
import Derived.Shelf.SlSortCmp.WholeK
import Derived.Shelf.SlSortCmp.NoneTotal
import Derived.Shelf.SlGeneric
import Derived.ProofKit
import Derived.OpenShut
import Derived.ShutString
import Derived.ChangeOld
import Derived.Below
import Derived.Lib.SmallJoins
import Derived.Deep.Slices
namespace Go.Proofs.YtfcdienphillnaaGreat
open Go.RowKit

set_option maxHeartbeats 1000000 in
theorem eqSource (e : Src) (w : World) :
    Calls Tryz.prog 95 #[.agg #[.int .i64 e.kind, .int .i64 e.sector, .int .i64 e.dump], .agg #[.int .i64 e.kind, .int .i64 e.sector, .int .i64 e.dump]] w fun e' w' => e' = .returned (.bool true) ∧ Below w.heap.size w w' := by
  go_enter Tryz.func95, Tryz.ntmps95
  go_wp2
  go_ret
  exact ⟨rfl, (by repeat (first | exact Below.refl _ _ | refine Below.alloc ?_ (by first | omega | (simp; done) | (simp; omega)) _ | apply Below.drew | apply below_drewN | refine Below.setCell ?_ (by first | omega | (simp; done) | (simp; omega)) _ | refine Below.trans ?_ (Below.mono (by assumption) (by first | omega | (simp; done) | (simp; omega)))))⟩

set_option maxHeartbeats 2000000 in
theorem eqSourceS (l : List Src) (va vb : Value) (Ba Bb : Nat) (w : World) (ha : OwnL Src.cells 3 83 Ba w va l) (hb0 : OwnL Src.cells 3 83 Bb w vb l) (hn : l.length ≤ 8388608) :
    Calls Tryz.prog 57 #[va, vb] w fun e w' => e = .returned (.bool true) ∧ Below w.heap.size w w' := by
  obtain ⟨A, c, rfl, hA⟩ := ha.shape
  obtain ⟨A', c', rfl, hA'⟩ := hb0.shape
  by_cases hl0 : l = []
  · subst hl0
    go_enter Tryz.func57, Tryz.ntmps57
    go_wp2
    refine wp_loop_once ?_
    go_wp2
    go_ret
    exact ⟨rfl, Below.refl _ _⟩
  · obtain ⟨ga, rfl, _, hga⟩ := hA.resolve_left hl0
    obtain ⟨gb, rfl, _, hgb⟩ := hA'.resolve_left hl0
    clear hA hA'
    go_enter Tryz.func57, Tryz.ntmps57
    go_wp2
    go_loopw [5] (fun i wr => ∃ k : Nat, k ≤ l.length ∧ i = .int .i64 k ∧ Below w.heap.size w wr) (fun i _ => l.length - (intOf i).toNat)
    case atStart => exact ⟨0, by omega, rfl, Below.refl _ _⟩
    case round =>
      obtain ⟨k, hk, rfl, hb⟩ := hrel
      by_cases hltk : k < l.length
      · obtain ⟨e, he⟩ : ∃ e, l[k]? = some e := ⟨l[k]'(by omega), List.getElem?_eq_getElem (by omega)⟩
        have hz : w.heap.size ≤ wr.heap.size := hb.size
        have r0 : ∀ x : Wb wr, x.1.cell? ⟨ga, k * 3, none⟩ = some (.int .i64 e.kind) := fun x => Wb.cell ((hb.cell (p := ⟨ga, _, none⟩) hga).trans (OwnL.cell Src.len ha (j := 0) he rfl)) x
        have s0 : ∀ x : Wb wr, x.1.cell? ⟨gb, k * 3, none⟩ = some (.int .i64 e.kind) := fun x => Wb.cell ((hb.cell (p := ⟨gb, _, none⟩) hgb).trans (OwnL.cell Src.len hb0 (j := 0) he rfl)) x
        have r1 : ∀ x : Wb wr, x.1.cell? ⟨ga, k * 3 + 1, none⟩ = some (.int .i64 e.sector) := fun x => Wb.cell ((hb.cell (p := ⟨ga, _, none⟩) hga).trans (OwnL.cell Src.len ha (j := 1) he rfl)) x
        have s1 : ∀ x : Wb wr, x.1.cell? ⟨gb, k * 3 + 1, none⟩ = some (.int .i64 e.sector) := fun x => Wb.cell ((hb.cell (p := ⟨gb, _, none⟩) hgb).trans (OwnL.cell Src.len hb0 (j := 1) he rfl)) x
        have r2 : ∀ x : Wb wr, x.1.cell? ⟨ga, k * 3 + 2, none⟩ = some (.int .i64 e.dump) := fun x => Wb.cell ((hb.cell (p := ⟨ga, _, none⟩) hga).trans (OwnL.cell Src.len ha (j := 2) he rfl)) x
        have s2 : ∀ x : Wb wr, x.1.cell? ⟨gb, k * 3 + 2, none⟩ = some (.int .i64 e.dump) := fun x => Wb.cell ((hb.cell (p := ⟨gb, _, none⟩) hgb).trans (OwnL.cell Src.len hb0 (j := 2) he rfl)) x
        go_wp2
        refine wp_region_wb (by kernel_rfl) (by kernel_rfl) ?_
        repeat (go_big_quiet_step ((go_at_call 95; exact Wb.calls (eqSource e _))))
        refine wpQuiet_nil ?_; intro w1 hw'; obtain ⟨⟨w2, hb1⟩, hw''⟩ := hw'; subst hw''
        go_wp2
        go_roundw
        case rel => exact ⟨k + 1, by omega, by go_num, (by repeat (first | exact Below.refl _ _ | refine Below.alloc ?_ (by first | omega | (simp; done) | (simp; omega)) _ | apply Below.drew | apply below_drewN | refine Below.setCell ?_ (by first | omega | (simp; done) | (simp; omega)) _ | refine Below.trans ?_ (Below.mono (by assumption) (by first | omega | (simp; done) | (simp; omega)))))⟩
        case measure => simp [intOf]; omega
      · go_wp2
        go_ret
        exact ⟨rfl, hb⟩

theorem grown_setSource {a w : World} {g : Nat} (h : a.grownBy w (some g)) (o : Nat) (u : Value) : a.grownBy (w.setCell ⟨g, o, none⟩ u) (some g) :=
  ⟨h.os, h.tape, h.output, by simpa [World.setCell] using h.size, fun i hi hne => (Below.heap_setCell w ⟨g, o, none⟩ u i (by rintro rfl; exact hne rfl)).trans (h.block i hi hne)⟩
set_option maxHeartbeats 2000000 in
theorem markSourceS (l : List Src) (v : Value) (k0 : Nat) (B : Nat) (w : World) (h : OwnL Src.cells 3 83 B w v l) (hn : l.length ≤ 8388608) (h0 : 1 ≤ k0) (hk0 : k0 ≤ 67108864) :
    Calls Tryz.prog 67 #[v, .int .i64 k0] w fun e w' => MarkedSource B w v k0 l.length e w' := by
  obtain ⟨A, c, rfl, hA⟩ := h.shape
  by_cases hl0 : l = []
  · subst hl0
    have HR : Hid (MarkedSource B w (.slice A 0 c) k0 0 (.returned (.int .i64 k0)) w) := Lib.hid ⟨by simp, h, World.grownBy.refl w _⟩
    go_enter Tryz.func67, Tryz.ntmps67
    go_wp2
    refine wp_loop_once ?_
    go_wp2
    go_ret
    exact HR.out
  · obtain ⟨g, rfl, _, hg0⟩ := hA.resolve_left hl0
    clear hA
    go_enter Tryz.func67, Tryz.ntmps67
    go_wp2
    go_loopw [5, 1] (fun i m wr => ∃ k : Nat, k ≤ l.length ∧ i = .int .i64 k ∧ m = .int .i64 ((k0 + k * 3 : Nat) : Int) ∧ w.grownBy wr (some g) ∧ wr.ownsRow B 83 3 (.slice (some ⟨g, 0, none⟩) l.length c) l.length (flat Src.cells (Src.marks k0 k ++ l.drop k))) (fun i _ _ => l.length - (intOf i).toNat)
    case atStart => exact ⟨0, by omega, rfl, by simp, World.grownBy.refl w _, by unfold OwnL at h; simpa [Src.marks] using h⟩
    case round =>
      obtain ⟨k, hk, rfl, rfl, hg, how⟩ := hrel
      by_cases hltk : k < l.length
      · obtain ⟨e, he⟩ : ∃ e, l[k]? = some e := ⟨l[k]'(by omega), List.getElem?_eq_getElem (by omega)⟩
        have HG := Lib.hid ((Src.mid_get k0 k l).trans he)
        have HO := Lib.hid how
        have HW := Lib.hid hg
        clear how hg h
        have HO1 := HO; have HG1 := HW; have q0 : wr.cell? ⟨g, k * 3, none⟩ = some (.int .i64 e.kind) := (HO1.out.cellAt (k * 3 + 0) (by omega)).trans (flat_get Src.len HG.out (j := 0) (by omega)); have q1 : wr.cell? ⟨g, k * 3 + 1, none⟩ = some (.int .i64 e.sector) := (HO1.out.cellAt (k * 3 + 1) (by omega)).trans (flat_get Src.len HG.out (j := 1) (by omega)); have q2 : wr.cell? ⟨g, k * 3 + 2, none⟩ = some (.int .i64 e.dump) := (HO1.out.cellAt (k * 3 + 2) (by omega)).trans (flat_get Src.len HG.out (j := 2) (by omega)); have z0 := fun j => HO1.out.frozenAt j; go_wp2
        go_roundw
        case rel => exact ⟨k + 1, by omega, by go_num, by congr 1; omega, grown_setSource (grown_setSource (grown_setSource HG1.out _ _) _ _) _ _, by rw [← Src.mid_set k0 k l hltk, ← flat_put Src.len _ k _ (by rw [Src.mid_len k0 k l hk]; exact hltk)]; exact own_put3 HO1.out (.int .i64 ((k0 + k * 3 : Nat) : Int)) (.int .i64 ((k0 + k * 3 + 1 : Nat) : Int)) (.int .i64 ((k0 + k * 3 + 2 : Nat) : Int)) (by rw [flat_len Src.len, Src.mid_len k0 k l hk]; omega)⟩
        case measure => simp [intOf]; omega
      · obtain rfl : k = l.length := by omega
        go_wp2
        go_ret
        exact ⟨rfl, by simpa [OwnL, Src.marks_len] using how, hg⟩

set_option maxHeartbeats 2000000 in
theorem heldSourceS (n : Nat) (v : Value) (k0 : Nat) (B : Nat) (w : World) (h : OwnL Src.cells 3 83 B w v (Src.marks k0 n)) (hn : n ≤ 8388608) (h0 : 1 ≤ k0) (hk0 : k0 ≤ 67108864) :
    Calls Tryz.prog 69 #[v, .int .i64 k0] w fun e w' => e = .returned (.int .i64 ((k0 + n * 3 : Nat) : Int)) ∧ Below w.heap.size w w' := by
  obtain ⟨A, c, rfl, hA⟩ := h.shape
  have hl : (Src.marks k0 n).length = n := Src.marks_len k0 n
  by_cases hl0 : n = 0
  · subst hl0
    have HR : Hid (Ending.returned (.int .i64 k0) = .returned (.int .i64 ((k0 + 0 * 3 : Nat) : Int))) := Lib.hid (by simp)
    go_enter Tryz.func69, Tryz.ntmps69
    go_wp2
    refine wp_loop_once ?_
    go_wp2
    go_ret
    exact ⟨HR.out, Below.refl _ _⟩
  · obtain ⟨g, rfl, _, hg0⟩ := hA.resolve_left (by intro e; rw [e] at hl; simp at hl; omega)
    have h' := h
    clear hA
    rw [hl]
    clear hl
    go_enter Tryz.func69, Tryz.ntmps69
    go_wp2
    go_loopw [5, 1] (fun i m wr => ∃ k : Nat, k ≤ n ∧ i = .int .i64 k ∧ m = .int .i64 ((k0 + k * 3 : Nat) : Int) ∧ Below w.heap.size w wr) (fun i _ _ => n - (intOf i).toNat)
    case atStart => exact ⟨0, by omega, rfl, by simp, Below.refl _ _⟩
    case round =>
      obtain ⟨k, hk, rfl, rfl, hb⟩ := hrel
      by_cases hltk : k < n
      · 
        have c0 : w.cell? ⟨g, k * 3, none⟩ = some (.int .i64 ((k0 + k * 3 : Nat) : Int)) := OwnL.cell Src.len h' (Src.marks_get k0 n k hltk) (j := 0) rfl
        have c1 : w.cell? ⟨g, k * 3 + 1, none⟩ = some (.int .i64 ((k0 + k * 3 + 1 : Nat) : Int)) := OwnL.cell Src.len h' (Src.marks_get k0 n k hltk) (j := 1) rfl
        have c2 : w.cell? ⟨g, k * 3 + 2, none⟩ = some (.int .i64 ((k0 + k * 3 + 2 : Nat) : Int)) := OwnL.cell Src.len h' (Src.marks_get k0 n k hltk) (j := 2) rfl
        clear h h'
        have s0 : wr.cell? ⟨g, k * 3, none⟩ = some (.int .i64 ((k0 + k * 3 : Nat) : Int)) := (hb.cell (p := ⟨g, _, none⟩) hg0).trans c0
        have s1 : wr.cell? ⟨g, k * 3 + 1, none⟩ = some (.int .i64 ((k0 + k * 3 + 1 : Nat) : Int)) := (hb.cell (p := ⟨g, _, none⟩) hg0).trans c1
        have s2 : wr.cell? ⟨g, k * 3 + 2, none⟩ = some (.int .i64 ((k0 + k * 3 + 2 : Nat) : Int)) := (hb.cell (p := ⟨g, _, none⟩) hg0).trans c2
        have hz : w.heap.size ≤ wr.heap.size := hb.size
        go_wp2
        go_roundw
        case rel => exact ⟨k + 1, by omega, by go_num, by congr 1; omega, (by repeat (first | exact Below.refl _ _ | refine Below.alloc ?_ (by first | omega | (simp; done) | (simp; omega)) _ | apply Below.drew | apply below_drewN | refine Below.setCell ?_ (by first | omega | (simp; done) | (simp; omega)) _ | refine Below.trans ?_ (Below.mono (by assumption) (by first | omega | (simp; done) | (simp; omega)))))⟩
        case measure => simp [intOf]; omega
      · obtain rfl : k = n := by omega
        go_wp2
        go_ret
        exact ⟨rfl, hb⟩

theorem r_eqSourceS (l : List Src) (va vb : Value) (B E B' E' : Nat) (w : World) (ha : RSourceS.own B E w va l) (hb : RSourceS.own B' E' w vb l) (hn : RSourceS.cnt l ≤ 8388608) :
    Calls Tryz.prog 57 #[va, vb] w fun e w' => e = .returned (.bool true) ∧ Below w.heap.size w w' :=
  eqSourceS l va vb B B' w ha.1 hb.1 (by have : l.length * 3 ≤ 8388608 := hn; omega)
theorem r_markSourceS (l : List Src) (v : Value) (k0 B E : Nat) (w : World) (h : RSourceS.own B E w v l) (hn : RSourceS.cnt l ≤ 8388608) (h0 : 1 ≤ k0) (hk : k0 ≤ 67108864) :
    Calls Tryz.prog 67 #[v, .int .i64 k0] w fun e w' => RSourceS.marked B E w v k0 l e w' :=
  (markSourceS l v k0 B w h.1 (by have : l.length * 3 ≤ 8388608 := hn; omega) h0 hk).mono fun _ _ ⟨h1, h2, h3⟩ => ⟨h1, ⟨h2, h.2⟩, Chg.of_grown h3 fun g hg => ⟨(h.1.lt g hg).1, h.2 g hg⟩⟩
theorem r_heldSourceS (l : List Src) (v : Value) (k0 B E : Nat) (w : World) (h : RSourceS.own B E w v (RSourceS.mark k0 l)) (hn : RSourceS.cnt l ≤ 8388608) (h0 : 1 ≤ k0) (hk : k0 ≤ 67108864) :
    Calls Tryz.prog 69 #[v, .int .i64 k0] w fun e w' => e = .returned (.int .i64 ((k0 + RSourceS.cnt l : Nat) : Int)) ∧ Below w.heap.size w w' :=
  heldSourceS l.length v k0 B w h.1 (by have : l.length * 3 ≤ 8388608 := hn; omega) h0 hk
end Go.Proofs.YtfcdienphillnaaGreat
namespace Go.Proofs.YtfcdienphillnaaGreat
open Go.RowKit

set_option maxHeartbeats 1000000 in
theorem eqCert (l : List Src) (va vb : Value) (B E B' E' : Nat) (w : World) (ha : RSourceS.own B E w va l) (hb : RSourceS.own B' E' w vb l) (hn : RSourceS.cnt l ≤ 8388608) :
    Calls Tryz.prog 18 #[.agg #[va], .agg #[vb]] w fun e w' => e = .returned (.bool true) ∧ Below w.heap.size w w' := by
  have hs := fun w' (h : Below w.heap.size w w') => r_eqSourceS l va vb B E B' E' w' (Rep.keep (R := RSourceS) ha h) (Rep.keep (R := RSourceS) hb h) hn
  obtain ⟨A, c, rfl, _⟩ := ha.1.shape
  obtain ⟨A', c', rfl, _⟩ := hb.1.shape
  clear ha hb
  have HS := Lib.hid hs
  clear hs
  go_enter Tryz.func18, Tryz.ntmps18
  go_wp2_with (go_at_call 57; refine (HS.out _ (by repeat (first | exact Below.refl _ _ | refine Below.alloc ?_ (by first | omega | (simp; done) | (simp; omega)) _ | apply Below.drew | apply below_drewN | refine Below.setCell ?_ (by first | omega | (simp; done) | (simp; omega)) _ | refine Below.trans ?_ (Below.mono (by assumption) (by first | omega | (simp; done) | (simp; omega)))))).mono ?_; rintro e w1 ⟨rfl, hb1⟩)
  go_ret
  exact ⟨rfl, (by repeat (first | exact Below.refl _ _ | refine Below.alloc ?_ (by first | omega | (simp; done) | (simp; omega)) _ | apply Below.drew | apply below_drewN | refine Below.setCell ?_ (by first | omega | (simp; done) | (simp; omega)) _ | refine Below.trans ?_ (Below.mono (by assumption) (by first | omega | (simp; done) | (simp; omega)))))⟩
set_option maxHeartbeats 1000000 in
theorem markCert (l : List Src) (v : Value) (k0 B E : Nat) (w : World) (h : RSourceS.own B E w v l) (hE : E ≤ w.heap.size) (hn : RSourceS.cnt l ≤ 8388608) (h0 : 1 ≤ k0) (hk : k0 ≤ 67108864) :
    Calls Tryz.prog 30 #[.agg #[v], .int .i64 k0] w fun e w' => RSourceS.marked B E w v k0 l e w' := by
  have hs := r_markSourceS l v k0 B E _ (Rep.keep (R := RSourceS) h (Below.alloc (Below.refl _ _) (Nat.le_refl _) (.cells #[v] 47))) hn h0 hk
  obtain ⟨A, c, rfl, _⟩ := h.1.shape
  clear h
  go_enter Tryz.func30, Tryz.ntmps30
  go_wp2_with (go_at_call 67; refine hs.mono ?_; rintro e w1 ⟨rfl, o1, hc1⟩)
  go_ret
  exact ⟨rfl, o1, (Chg.of_below (Below.alloc (Below.refl _ _) (Nat.le_refl _) _)).trans hc1⟩
end Go.Proofs.YtfcdienphillnaaGreat
namespace Go.Proofs.YtfcdienphillnaaGreat
open Go.RowKit

set_option maxHeartbeats 2000000 in
theorem heldSectorS (n : Nat) (v : Value) (k0 : Nat) (B : Nat) (w : World) (h : OwnL Sec.cells 2 70 B w v (Sec.marks k0 n)) (hn : n ≤ 8388608) (h0 : 1 ≤ k0) (hk0 : k0 ≤ 67108864) :
    Calls Tryz.prog 68 #[v, .int .i64 k0] w fun e w' => e = .returned (.int .i64 ((k0 + n * 2 : Nat) : Int)) ∧ Below w.heap.size w w' := by
  obtain ⟨A, c, rfl, hA⟩ := h.shape
  have hl : (Sec.marks k0 n).length = n := Sec.marks_len k0 n
  by_cases hl0 : n = 0
  · subst hl0
    have HR : Hid (Ending.returned (.int .i64 k0) = .returned (.int .i64 ((k0 + 0 * 2 : Nat) : Int))) := Lib.hid (by simp)
    go_enter Tryz.func68, Tryz.ntmps68
    go_wp2
    refine wp_loop_once ?_
    go_wp2
    go_ret
    exact ⟨HR.out, Below.refl _ _⟩
  · obtain ⟨g, rfl, _, hg0⟩ := hA.resolve_left (by intro e; rw [e] at hl; simp at hl; omega)
    have h' := h
    clear hA
    rw [hl]
    clear hl
    go_enter Tryz.func68, Tryz.ntmps68
    go_wp2
    go_loopw [5, 1] (fun i m wr => ∃ k : Nat, k ≤ n ∧ i = .int .i64 k ∧ m = .int .i64 ((k0 + k * 2 : Nat) : Int) ∧ Below w.heap.size w wr) (fun i _ _ => n - (intOf i).toNat)
    case atStart => exact ⟨0, by omega, rfl, by simp, Below.refl _ _⟩
    case round =>
      obtain ⟨k, hk, rfl, rfl, hb⟩ := hrel
      by_cases hltk : k < n
      · 
        have c0 : w.cell? ⟨g, k * 2, none⟩ = some (.string (mt (k0 + k * 2))) := OwnL.cell Sec.len h' (Sec.marks_get k0 n k hltk) (j := 0) rfl
        have c1 : w.cell? ⟨g, k * 2 + 1, none⟩ = some (.int .i64 ((k0 + k * 2 + 1 : Nat) : Int)) := OwnL.cell Sec.len h' (Sec.marks_get k0 n k hltk) (j := 1) rfl
        clear h h'
        have r0 : ∀ x : Wb wr, x.1.cell? ⟨g, k * 2, none⟩ = some (.string (mt (k0 + k * 2))) := fun x => Wb.cell ((hb.cell (p := ⟨g, _, none⟩) hg0).trans c0) x
        have hz : w.heap.size ≤ wr.heap.size := hb.size
        go_wp2
        refine wp_region_wb (by kernel_rfl) (by kernel_rfl) ?_
        repeat (go_big_quiet_step ((go_at_call 108; exact Wb.calls (mark_any (k0 + k * 2) _ (by omega) (by omega)))))
        refine wpQuiet_nil ?_; intro w1 hw'; obtain ⟨⟨w2, hb1⟩, hw''⟩ := hw'; subst hw''
        have hz2 := hb1.size
        have s1 : w1.cell? ⟨g, k * 2 + 1, none⟩ = some (.int .i64 ((k0 + k * 2 + 1 : Nat) : Int)) := (hb1.cell (p := ⟨g, _, none⟩) (Nat.lt_of_lt_of_le hg0 hz)).trans ((hb.cell (p := ⟨g, _, none⟩) hg0).trans c1)
        clear r0
        go_wp2
        go_roundw
        case rel => exact ⟨k + 1, by omega, by go_num, by congr 1; omega, (by repeat (first | exact Below.refl _ _ | refine Below.alloc ?_ (by first | omega | (simp; done) | (simp; omega)) _ | apply Below.drew | apply below_drewN | refine Below.setCell ?_ (by first | omega | (simp; done) | (simp; omega)) _ | refine Below.trans ?_ (Below.mono (by assumption) (by first | omega | (simp; done) | (simp; omega)))))⟩
        case measure => simp [intOf]; omega
      · obtain rfl : k = n := by omega
        go_wp2
        go_ret
        exact ⟨rfl, hb⟩

theorem r_markSectorS (l : List Sec) (v : Value) (k0 B E : Nat) (w : World) (h : RSectorS.own B E w v l) (hn : RSectorS.cnt l ≤ 8388608) (h0 : 1 ≤ k0) (hk : k0 ≤ 67108864) :
    Calls Tryz.prog 66 #[v, .int .i64 k0] w fun e w' => RSectorS.marked B E w v k0 l e w' :=
  (markSectorS l v k0 B w h.1 (by have : l.length * 2 ≤ 8388608 := hn; omega) h0 hk).mono fun _ _ ⟨h1, h2, h3⟩ => ⟨h1, ⟨h2, h.2⟩, Chg.of_grown h3 fun g hg => ⟨(h.1.lt g hg).1, h.2 g hg⟩⟩
theorem r_heldSectorS (l : List Sec) (v : Value) (k0 B E : Nat) (w : World) (h : RSectorS.own B E w v (RSectorS.mark k0 l)) (hn : RSectorS.cnt l ≤ 8388608) (h0 : 1 ≤ k0) (hk : k0 ≤ 67108864) :
    Calls Tryz.prog 68 #[v, .int .i64 k0] w fun e w' => e = .returned (.int .i64 ((k0 + RSectorS.cnt l : Nat) : Int)) ∧ Below w.heap.size w w' :=
  heldSectorS l.length v k0 B w h.1 (by have : l.length * 2 ≤ 8388608 := hn; omega) h0 hk
end Go.Proofs.YtfcdienphillnaaGreat
namespace Go.Proofs.YtfcdienphillnaaGreat
open Go.RowKit
theorem Row.five {w : World} {b : Nat} {d : Dsc} {v : Value} (h : Row w b (dscL d v)) : Five d v b w := ⟨h 0 _ rfl, h 1 _ rfl, h 2 _ rfl, h 3 _ rfl, h 4 _ rfl⟩
set_option maxRecDepth 20000 in
set_option maxHeartbeats 2000000 in
theorem markDsc (d : Dsc) (v : Value) (k0 B E : Nat) (w : World) (h : OwnD B E w v d.secs) (hn : d.secs.length ≤ 1048576) (h0 : 1 ≤ k0) (hk : k0 ≤ 67108864) :
    Calls Tryz.prog 29 #[dscV d v, .int .i64 k0] w fun e w' => e = .returned (.int .i64 ((k0 + d.secs.length * 2 : Nat) : Int)) ∧ OwnD B E w' v (RSectorS.mark k0 d.secs) ∧ Chg B E w w' := by
  have HO := Lib.hid h
  obtain ⟨A, c, rfl, _⟩ := OwnL.shape h.1
  have HB : Below w.heap.size w (w.alloc (.cells #[.int .i64 d.cyl, .int .i64 d.heads, .int .i64 d.per, .int .i64 d.size, .slice A d.secs.length c] 43)) := Below.alloc (Below.refl _ _) (Nat.le_refl _) _
  have HM := Lib.hid (r_markSectorS d.secs (.slice A d.secs.length c) k0 B E _ (HO.out.below HB) (by show d.secs.length * 2 ≤ _; omega) h0 hk)
  clear h
  go_enter Tryz.func29, Tryz.ntmps29
  go_wp2_with (fail)
  refine HM.out.mono ?_; rintro e w1 ⟨rfl, o1, hc⟩
  go_wp2
  go_ret
  exact ⟨rfl, o1, (Chg.of_below HB).trans hc⟩
set_option maxRecDepth 20000 in
set_option maxHeartbeats 2000000 in
theorem heldDsc (d : Dsc) (v : Value) (k0 B E : Nat) (w : World) (h : OwnD B E w v (RSectorS.mark k0 d.secs)) (hn : d.secs.length ≤ 1048576) (h0 : 1 ≤ k0) (hk : k0 ≤ 67108864) (hv : ∃ A c, v = .slice A d.secs.length c) :
    Calls Tryz.prog 31 #[dscV d v, .int .i64 k0] w fun e w' => e = .returned (.int .i64 ((k0 + d.secs.length * 2 : Nat) : Int)) ∧ Below w.heap.size w w' := by
  have HO := Lib.hid h
  obtain ⟨A, c, rfl⟩ := hv
  have HB : Below w.heap.size w (w.alloc (.cells #[.int .i64 d.cyl, .int .i64 d.heads, .int .i64 d.per, .int .i64 d.size, .slice A d.secs.length c] 43)) := Below.alloc (Below.refl _ _) (Nat.le_refl _) _
  have HM := Lib.hid (r_heldSectorS d.secs (.slice A d.secs.length c) k0 B E _ (HO.out.below HB) (by show d.secs.length * 2 ≤ _; omega) h0 hk)
  have hk2 : ((k0 + RSectorS.cnt d.secs : Nat) : Int) = ((k0 + d.secs.length * 2 : Nat) : Int) := rfl
  have hlt : decide (((k0 + RSectorS.cnt d.secs : Nat) : Int) < 0) = false := by simp; omega
  clear h
  go_enter Tryz.func31, Tryz.ntmps31
  go_wp2_with (fail)
  refine HM.out.mono ?_; rintro e w1 ⟨rfl, hb⟩
  go_wp2
  go_ret
  exact ⟨rfl, HB.trans (hb.mono (by simp))⟩
end Go.Proofs.YtfcdienphillnaaGreat
namespace Go.Proofs.YtfcdienphillnaaGreat
open Go.RowKit
theorem rdS_len (e : Evd) : (rdS e).length = (rdZ e).secs.length := rpS_len
theorem pair_ret {wr : World} {b b1 bd bc : Nat} {o0 o1 o2 o3 o4 ov a0 a1 a2 a3 a4 v : Value} (r2 : Row wr b [o0, o1, o2, o3, o4]) (r3 : Row wr b1 [ov]) (rd : Row wr bd [a0, a1, a2, a3, a4]) (rc : Row wr bc [v]) (h1 : bd ≠ b) (h2 : bd ≠ b1) (h3 : bc ≠ b) (h4 : bc ≠ b1) (hne2 : b ≠ b1) :
    SixA wr.drew bd bc a0 a1 a2 a3 a4 v ∧ SixA ((((((wr.setCell ⟨b, 0, none⟩ a0).setCell ⟨b, 1, none⟩ a1).setCell ⟨b, 2, none⟩ a2).setCell ⟨b, 3, none⟩ a3).setCell ⟨b, 4, none⟩ a4)).drew bd bc a0 a1 a2 a3 a4 v ∧ SixA (((((((wr.setCell ⟨b, 0, none⟩ a0).setCell ⟨b, 1, none⟩ a1).setCell ⟨b, 2, none⟩ a2).setCell ⟨b, 3, none⟩ a3).setCell ⟨b, 4, none⟩ a4).setCell ⟨b1, 0, none⟩ v)).drew bd bc a0 a1 a2 a3 a4 v ∧ Row ((((((wr.setCell ⟨b, 0, none⟩ a0).setCell ⟨b, 1, none⟩ a1).setCell ⟨b, 2, none⟩ a2).setCell ⟨b, 3, none⟩ a3).setCell ⟨b, 4, none⟩ a4).setCell ⟨b1, 0, none⟩ v) b [a0, a1, a2, a3, a4] ∧ Row ((((((wr.setCell ⟨b, 0, none⟩ a0).setCell ⟨b, 1, none⟩ a1).setCell ⟨b, 2, none⟩ a2).setCell ⟨b, 3, none⟩ a3).setCell ⟨b, 4, none⟩ a4).setCell ⟨b1, 0, none⟩ v) b1 [v] ∧ wr.grownBy (((((wr.setCell ⟨b, 0, none⟩ a0).setCell ⟨b, 1, none⟩ a1).setCell ⟨b, 2, none⟩ a2).setCell ⟨b, 3, none⟩ a3).setCell ⟨b, 4, none⟩ a4) (some b) ∧ World.grownBy (((((wr.setCell ⟨b, 0, none⟩ a0).setCell ⟨b, 1, none⟩ a1).setCell ⟨b, 2, none⟩ a2).setCell ⟨b, 3, none⟩ a3).setCell ⟨b, 4, none⟩ a4) ((((((wr.setCell ⟨b, 0, none⟩ a0).setCell ⟨b, 1, none⟩ a1).setCell ⟨b, 2, none⟩ a2).setCell ⟨b, 3, none⟩ a3).setCell ⟨b, 4, none⟩ a4).setCell ⟨b1, 0, none⟩ v) (some b1) := by
  have hK : ∀ w' : World, (∀ (k o : Nat), k ≠ b → k ≠ b1 → w'.cell? ⟨k, o, none⟩ = wr.cell? ⟨k, o, none⟩) → SixA w' bd bc a0 a1 a2 a3 a4 v := fun w' hk =>
    ⟨(hk _ _ h1 h2).trans (rd 0 _ rfl), (hk _ _ h1 h2).trans (rd 1 _ rfl), (hk _ _ h1 h2).trans (rd 2 _ rfl), (hk _ _ h1 h2).trans (rd 3 _ rfl), (hk _ _ h1 h2).trans (rd 4 _ rfl), (hk _ _ h3 h4).trans (rc 0 _ rfl)⟩
  have hne3 : b1 ≠ b := hne2.symm
  exact ⟨hK _ (fun k o h1 h2 => rfl), hK _ (fun k o h1 h2 => (cell_dr _ _).trans ((cell_oth h1).trans ((cell_oth h1).trans ((cell_oth h1).trans ((cell_oth h1).trans (cell_oth h1)))))), hK _ (fun k o h1 h2 => (cell_dr _ _).trans ((cell_oth h2).trans ((cell_oth h1).trans ((cell_oth h1).trans ((cell_oth h1).trans ((cell_oth h1).trans (cell_oth h1))))))),
    (set5_row r2 a0 a1 a2 a3 a4).set_other (g := b1) (o := 0) v hne2,
    (((((r3.set_other (g := b) (o := 0) a0 hne3).set_other (g := b) (o := 1) a1 hne3).set_other (g := b) (o := 2) a2 hne3).set_other (g := b) (o := 3) a3 hne3).set_other (g := b) (o := 4) a4 hne3).set (o := 0) v (by simp),
    gset (gset (gset (gset (gset (World.grownBy.refl wr _) _ _) _ _) _ _) _ _) _ _, gset (World.grownBy.refl _ _) _ _⟩
end Go.Proofs.YtfcdienphillnaaGreat
namespace Go.Proofs.YtfcdienphillnaaGreat
open Go.RowKit
theorem heldCert (l : List Src) (v : Value) (k0 B E : Nat) (w : World) (h : RSourceS.own B E w v (RSourceS.mark k0 l)) (hn : RSourceS.cnt l ≤ 8388608) (h0 : 1 ≤ k0) (hk : k0 ≤ 67108864) :
    Calls Tryz.prog 32 #[.agg #[v], .int .i64 k0] w fun e w' => e = .returned (.int .i64 ((k0 + RSourceS.cnt l : Nat) : Int)) ∧ Below w.heap.size w w' := by
  have hs := r_heldSourceS l v k0 B E _ (Rep.keep (R := RSourceS) h (Below.alloc (Below.refl _ _) (Nat.le_refl _) (.cells #[v] 47))) hn h0 hk
  obtain ⟨A, c, rfl, _⟩ := h.1.shape
  clear h
  generalize k0 + RSourceS.cnt l = r at *
  go_enter Tryz.func32, Tryz.ntmps32
  go_wp2_with (go_at_call 69; refine hs.mono ?_; rintro e w1 ⟨rfl, hb1⟩)
  go_ret
  exact ⟨rfl, (Below.alloc (Below.refl _ _) (Nat.le_refl _) _).trans (hb1.mono (by simp))⟩
theorem rpd_rep {d : Dsc} {l : List Src} {c : Int} {fn : FuncId} {args : Array Value} {w : World} (h : Calls Tryz.prog fn args w fun r w' => ∃ x y K, r = .returned (.tuple #[dscV d x, .agg #[y], .int .i64 c]) ∧ SecOwn w.heap.size w' x d.secs ∧ (∀ g, x.ownBlock = some g → g < K) ∧ w.heap.size ≤ K ∧ OwnL Src.cells 3 83 K w' y l ∧ Below w.heap.size w w') :
    Calls Tryz.prog fn args w fun r w' => ∃ A n B m K, r = .returned (.tuple #[dscV d (.slice A d.secs.length n), .agg #[.slice B l.length m], .int .i64 c]) ∧ OwnD w.heap.size K w' (.slice A d.secs.length n) d.secs ∧ RSourceS.own K w'.heap.size w' (.slice B l.length m) l ∧ w.heap.size ≤ K ∧ K ≤ w'.heap.size ∧ Below w.heap.size w w' := by
  refine h.mono ?_
  rintro r w' ⟨x, y, K, rfl, h1, h2, h3, h4, h5⟩
  obtain ⟨A, n, rfl, _⟩ := OwnL.shape h1
  obtain ⟨B, m, rfl, _⟩ := OwnL.shape h4
  have hz := h5.size
  exact ⟨A, n, B, m, min K w'.heap.size, rfl, ⟨h1, fun g hg => by have := h2 g hg; have := (World.ownsRow.lt h1 g hg).2; omega⟩, ⟨OwnL.base h4 (Nat.min_le_left _ _), fun g hg => (World.ownsRow.lt h4 g hg).2⟩, by omega, Nat.min_le_right _ _, h5⟩
end Go.Proofs.YtfcdienphillnaaGreat
namespace Go.Proofs.YtfcdienphillnaaGreat
open Go.RowKit
set_option maxRecDepth 20000 in
set_option maxHeartbeats 8000000 in
theorem rpd_i (B : Nat) (e : Evd) (va vb vc vd : Value) (w : World) (h : EvOwn B w e va vb vc vd) (hs : EvSmall e) :
    Calls Tryz.prog 28 #[evV va vb vc vd] w fun r w' => ∃ x y K, r = .returned (.tuple #[dscV (rdD e) x, .agg #[y], .int .i64 (rdC e)]) ∧ SecOwn w.heap.size w' x (rdD e).secs ∧ (∀ g, x.ownBlock = some g → g < K) ∧ w.heap.size ≤ K ∧ OwnL Src.cells 3 83 K w' y (rdY e) ∧ Below w.heap.size w w' := by
  have H0 := Lib.hid h
  obtain ⟨A, n, B', kk, C, i, D, j, rfl, rfl, rfl, rfl⟩ := h.shape
  obtain ⟨RE, R2, R3, HBZ, zz⟩ := boxes3 w #[.slice A e.ds.length n, .slice B' e.cr.length kk, .slice C e.p.length i, .slice D e.q.length j] #[.int .i64 0, .int .i64 0, .int .i64 0, .int .i64 0, .slice none 0 0] #[.slice none 0 0] 39 43 47
  have s1 : (w.alloc (.cells #[.slice A e.ds.length n, .slice B' e.cr.length kk, .slice C e.p.length i, .slice D e.q.length j] 39)).heap.size = w.heap.size + 1 := by simp
  have s2 : ((w.alloc (.cells #[.slice A e.ds.length n, .slice B' e.cr.length kk, .slice C e.p.length i, .slice D e.q.length j] 39)).alloc (.cells #[.int .i64 0, .int .i64 0, .int .i64 0, .int .i64 0, .slice none 0 0] 43)).heap.size = w.heap.size + 2 := by simp
  have F2 : ∀ o, ((((w.alloc (.cells #[.slice A e.ds.length n, .slice B' e.cr.length kk, .slice C e.p.length i, .slice D e.q.length j] 39)).alloc (.cells #[.int .i64 0, .int .i64 0, .int .i64 0, .int .i64 0, .slice none 0 0] 43)).alloc (.cells #[.slice none 0 0] 47))).frozen? ⟨w.heap.size + 1, o, none⟩ = false := fun o => frozen_below (fun o => by rw [← s1]; exact frozen_alloc (w.alloc (.cells #[.slice A e.ds.length n, .slice B' e.cr.length kk, .slice C e.p.length i, .slice D e.q.length j] 39)) #[.int .i64 0, .int .i64 0, .int .i64 0, .int .i64 0, .slice none 0 0] 43 o) (Below.alloc (Below.refl _ _) (Nat.le_refl _) _) (by omega) o
  have F3 : ∀ o, ((((w.alloc (.cells #[.slice A e.ds.length n, .slice B' e.cr.length kk, .slice C e.p.length i, .slice D e.q.length j] 39)).alloc (.cells #[.int .i64 0, .int .i64 0, .int .i64 0, .int .i64 0, .slice none 0 0] 43)).alloc (.cells #[.slice none 0 0] 47))).frozen? ⟨w.heap.size + 2, o, none⟩ = false := fun o => by rw [← s2]; exact frozen_alloc _ _ _ o
  have HV := Lib.hid (ev_i B e _ _ _ _ (((w.alloc (.cells #[.slice A e.ds.length n, .slice B' e.cr.length kk, .slice C e.p.length i, .slice D e.q.length j] 39)).alloc (.cells #[.int .i64 0, .int .i64 0, .int .i64 0, .int .i64 0, .slice none 0 0] 43)).alloc (.cells #[.slice none 0 0] 47)) (h.below HBZ) hs)
  have l0 := RE 0 _ rfl
  have l1 := RE 1 _ rfl
  have l2 := RE 2 _ rfl
  have l3 := RE 3 _ rfl
  have HRE := Lib.hid RE
  have HR2 := Lib.hid R2
  have HR3 := Lib.hid R3
  have HF2 := Lib.hid F2
  have HF3 := Lib.hid F3
  have HB := Lib.hid HBZ
  clear h RE R2 R3 F2 F3 HBZ
  go_enter Tryz.func28, Tryz.ntmps28
  cases hok : evOk e
  · rw [hok] at HV
    have hD : rdD e = ⟨0, 0, 0, 0, []⟩ := by unfold rdD; rw [hok]; rfl
    have hY : rdY e = [] := by unfold rdY; rw [hok]; rfl
    have hC : rdC e = 1 := by unfold rdC; rw [hok]; rfl
    rw [hD, hY, hC]
    clear hD hY hC
    go_wp2_with (fail)
    generalize (((w.alloc (.cells #[.slice A e.ds.length n, .slice B' e.cr.length kk, .slice C e.p.length i, .slice D e.q.length j] 39)).alloc (.cells #[.int .i64 0, .int .i64 0, .int .i64 0, .int .i64 0, .slice none 0 0] 43)).alloc (.cells #[.slice none 0 0] 47)) = w0 at *
    refine HV.out.mono ?_; rintro r w4 ⟨rfl, hb4⟩
    have HR2a := Lib.hid (HR2.out.below hb4 (by omega))
    have HR3a := Lib.hid (HR3.out.below hb4 (by omega))
    have hb := HB.out.trans (hb4.mono (by omega))
    have y0 := HR2a.out 0 _ rfl
    have y1 := HR2a.out 1 _ rfl
    have y2 := HR2a.out 2 _ rfl
    have y3 := HR2a.out 3 _ rfl
    have y4 := HR2a.out 4 _ rfl
    have y5 := HR3a.out 0 _ rfl
    have f0 := frozen_below HF2.out hb4 (by omega) 0
    have f1 := frozen_below HF2.out hb4 (by omega) 1
    have f2 := frozen_below HF2.out hb4 (by omega) 2
    have f3 := frozen_below HF2.out hb4 (by omega) 3
    have f4 := frozen_below HF2.out hb4 (by omega) 4
    have f5 := frozen_below HF3.out hb4 (by omega) 0
    have hne2 : w.heap.size + 1 ≠ w.heap.size + 2 := by omega
    have hne3 : w.heap.size + 2 ≠ w.heap.size + 1 := by omega
    have R9 := (set5_row HR2a.out (.int .i64 0) (.int .i64 0) (.int .i64 0) (.int .i64 0) (.slice none 0 0)).set_other (g := w.heap.size + 2) (o := 0) (.slice none 0 0) hne2
    have Q9 := (((((HR3a.out.set_other (g := w.heap.size + 1) (o := 0) (.int .i64 0) hne3).set_other (g := w.heap.size + 1) (o := 1) (.int .i64 0) hne3).set_other (g := w.heap.size + 1) (o := 2) (.int .i64 0) hne3).set_other (g := w.heap.size + 1) (o := 3) (.int .i64 0) hne3).set_other (g := w.heap.size + 1) (o := 4) (.slice none 0 0) hne3).set (o := 0) (.slice none 0 0) (by simp)
    have v0 := R9 0 _ rfl
    have v1 := R9 1 _ rfl
    have v2 := R9 2 _ rfl
    have v3 := R9 3 _ rfl
    have v4 := R9 4 _ rfl
    have v5 := Q9 0 _ rfl
    have HBW : Hid (Below w.heap.size w ((((((w4.setCell ⟨w.heap.size + 1, 0, none⟩ (.int .i64 0)).setCell ⟨w.heap.size + 1, 1, none⟩ (.int .i64 0)).setCell ⟨w.heap.size + 1, 2, none⟩ (.int .i64 0)).setCell ⟨w.heap.size + 1, 3, none⟩ (.int .i64 0)).setCell ⟨w.heap.size + 1, 4, none⟩ (.slice none 0 0)).setCell ⟨w.heap.size + 2, 0, none⟩ (.slice none 0 0))) := Lib.hid (Below.setCell (Below.setCell (Below.setCell (Below.setCell (Below.setCell (Below.setCell hb (Nat.le_succ _) _) (Nat.le_succ _) _) (Nat.le_succ _) _) (Nat.le_succ _) _) (Nat.le_succ _) _) (by show w.heap.size ≤ w.heap.size + 2; omega) _)
    clear R9 Q9 hne2 hne3 HR2a HR3a
    go_wp2_with (fail)
    generalize ((((((w4.setCell ⟨w.heap.size + 1, 0, none⟩ (.int .i64 0)).setCell ⟨w.heap.size + 1, 1, none⟩ (.int .i64 0)).setCell ⟨w.heap.size + 1, 2, none⟩ (.int .i64 0)).setCell ⟨w.heap.size + 1, 3, none⟩ (.int .i64 0)).setCell ⟨w.heap.size + 1, 4, none⟩ (.slice none 0 0)).setCell ⟨w.heap.size + 2, 0, none⟩ (.slice none 0 0)) = W9 at *
    exact bodyPost_ret (v := .tuple #[.agg #[.int .i64 0, .int .i64 0, .int .i64 0, .int .i64 0, .slice none 0 0], .agg #[.slice none 0 0], .int .i64 1]) (by simp [results, Tryz.results28, go_sem, v0, v1, v2, v3, v4, v5] <;> rfl) rfl ⟨.slice none 0 0, .slice none 0 0, rfl, OwnL.of_nil, w.heap.size, (fun g hg => nomatch hg), Nat.le_refl _, OwnL.of_nil, HBW.out⟩
  · obtain ⟨z, P, m, T, N, F⟩ := rd_f hok
    rw [hok] at HV
    have hD : rdD e = ⟨z.cyl, z.heads, (P : Int), z.size, rpS e (zSec m) P N N N⟩ := by unfold rdD; rw [hok, F.hz, F.hs, F.hp]; rfl
    have hY : rdY e = rpY e (zSec m) P N := by unfold rdY; rw [hok, F.hx]; rfl
    have hC : rdC e = 0 := by unfold rdC; rw [hok]; rfl
    have HREP := Lib.hid (fun (w' : World) (hb : Below w.heap.size w w') => rep_i B e _ _ _ _ z P m T N F.f F.hn w' (H0.out.below hb))
    rw [hD, hY, hC]
    clear hD hY hC hok
    go_wp2_with (fail)
    generalize (((w.alloc (.cells #[.slice A e.ds.length n, .slice B' e.cr.length kk, .slice C e.p.length i, .slice D e.q.length j] 39)).alloc (.cells #[.int .i64 0, .int .i64 0, .int .i64 0, .int .i64 0, .slice none 0 0] 43)).alloc (.cells #[.slice none 0 0] 47)) = w0 at *
    refine HV.out.mono ?_; rintro r w4 ⟨rfl, hb4⟩
    have hb := HB.out.trans (hb4.mono (by omega))
    have z4 := hb4.size
    have RE4 := HRE.out.below hb4 (by omega)
    have l0 := RE4 0 _ rfl
    have l1 := RE4 1 _ rfl
    have l2 := RE4 2 _ rfl
    have l3 := RE4 3 _ rfl
    go_wp2_with (fail)
    refine (HREP.out w4 hb).mono ?_; rintro r w5 ⟨x, y, K, rfl, hx, hxk, hwk, hy, hb5⟩
    obtain ⟨X, N', c, rfl⟩ := own_slice hx
    obtain ⟨Y, ly, cy, rfl⟩ := own_slice hy
    have Ba : Below w5.heap.size w5 ((w5.alloc (.cells #[.int .i64 z.cyl, .int .i64 z.heads, .int .i64 (P : Int), .int .i64 z.size, .slice X N' c] 43)).alloc (.cells #[.slice Y ly cy] 47)) := Below.alloc (Below.alloc (Below.refl _ _) (Nat.le_refl _) _) (by simp) _
    have z5 := hb5.size
    have HR2a := Lib.hid ((HR2.out.below hb4 (by omega)).below (hb5.trans (Ba.mono z5)) (by omega))
    have HR3a := Lib.hid ((HR3.out.below hb4 (by omega)).below (hb5.trans (Ba.mono z5)) (by omega))
    have f2 := frozen_below (frozen_below HF2.out hb4 (by omega)) (hb5.trans (Ba.mono z5)) (by omega)
    have f3 := frozen_below (frozen_below HF3.out hb4 (by omega)) (hb5.trans (Ba.mono z5)) (by omega)
    have RD : Row ((w5.alloc (.cells #[.int .i64 z.cyl, .int .i64 z.heads, .int .i64 (P : Int), .int .i64 z.size, .slice X N' c] 43)).alloc (.cells #[.slice Y ly cy] 47)) w5.heap.size [.int .i64 z.cyl, .int .i64 z.heads, .int .i64 (P : Int), .int .i64 z.size, .slice X N' c] := (Row.alloc w5 #[.int .i64 z.cyl, .int .i64 z.heads, .int .i64 (P : Int), .int .i64 z.size, .slice X N' c] 43).below (Below.alloc (Below.refl _ _) (Nat.le_refl _) _) (by simp)
    have RC : Row ((w5.alloc (.cells #[.int .i64 z.cyl, .int .i64 z.heads, .int .i64 (P : Int), .int .i64 z.size, .slice X N' c] 43)).alloc (.cells #[.slice Y ly cy] 47)) (w5.heap.size + 1) [.slice Y ly cy] := by
      have := Row.alloc (w5.alloc (.cells #[.int .i64 z.cyl, .int .i64 z.heads, .int .i64 (P : Int), .int .i64 z.size, .slice X N' c] 43)) #[.slice Y ly cy] 47
      simpa using this
    have HX := Lib.hid (OwnL.below (OwnL.base hx (by omega : w.heap.size ≤ w4.heap.size)) Ba)
    have HY := Lib.hid (OwnL.below hy Ba)
    have HBx := Lib.hid ((hb.trans (hb5.mono (by have := hb.size; omega))).trans (Ba.mono (by have := hb.size; omega)))
    have z4' : w.heap.size + 3 ≤ w4.heap.size := by omega
    obtain ⟨K0, K5, K9, R9, Q9, G5, G9⟩ := pair_ret HR2a.out HR3a.out RD RC (by omega) (by omega) (by omega) (by omega) (by omega)
    have v0 := R9 0 _ rfl
    have v1 := R9 1 _ rfl
    have v2 := R9 2 _ rfl
    have v3 := R9 3 _ rfl
    have v4 := R9 4 _ rfl
    have v5 := Q9 0 _ rfl
    have y0 := HR2a.out 0 _ rfl
    have y1 := HR2a.out 1 _ rfl
    have y2 := HR2a.out 2 _ rfl
    have y3 := HR2a.out 3 _ rfl
    have y4 := HR2a.out 4 _ rfl
    have y5 := HR3a.out 0 _ rfl
    have f0 := f2 0
    have f1 := f2 1
    have f4 := f2 4
    have f5 := f3 0
    replace f3 := f2 3
    replace f2 := f2 2
    have K0 := Lib.hid K0
    have K5 := Lib.hid K5
    have K9 := Lib.hid K9
    have HX9 : Hid (SecOwn w.heap.size ((((((((w5.alloc (.cells #[.int .i64 z.cyl, .int .i64 z.heads, .int .i64 (P : Int), .int .i64 z.size, .slice X N' c] 43)).alloc (.cells #[.slice Y ly cy] 47)).setCell ⟨w.heap.size + 1, 0, none⟩ (.int .i64 z.cyl)).setCell ⟨w.heap.size + 1, 1, none⟩ (.int .i64 z.heads)).setCell ⟨w.heap.size + 1, 2, none⟩ (.int .i64 (P : Int))).setCell ⟨w.heap.size + 1, 3, none⟩ (.int .i64 z.size)).setCell ⟨w.heap.size + 1, 4, none⟩ (.slice X N' c)).setCell ⟨w.heap.size + 2, 0, none⟩ (.slice Y ly cy)) (.slice X N' c) (rpS e (zSec m) P N N N)) := Lib.hid (OwnL.base (OwnL.kept (OwnL.kept (OwnL.below hx Ba) G5 (.inr (own_far hx (by omega)))) G9 (.inr (own_far hx (by omega)))) (by omega))
    have HY9 : Hid (OwnL Src.cells 3 83 K ((((((((w5.alloc (.cells #[.int .i64 z.cyl, .int .i64 z.heads, .int .i64 (P : Int), .int .i64 z.size, .slice X N' c] 43)).alloc (.cells #[.slice Y ly cy] 47)).setCell ⟨w.heap.size + 1, 0, none⟩ (.int .i64 z.cyl)).setCell ⟨w.heap.size + 1, 1, none⟩ (.int .i64 z.heads)).setCell ⟨w.heap.size + 1, 2, none⟩ (.int .i64 (P : Int))).setCell ⟨w.heap.size + 1, 3, none⟩ (.int .i64 z.size)).setCell ⟨w.heap.size + 1, 4, none⟩ (.slice X N' c)).setCell ⟨w.heap.size + 2, 0, none⟩ (.slice Y ly cy)) (.slice Y ly cy) (rpY e (zSec m) P N)) := Lib.hid (OwnL.kept (OwnL.kept HY.out G5 (.inr (own_far hy (by omega)))) G9 (.inr (own_far hy (by omega))))
    have HB9 : Hid (Below w.heap.size w ((((((((w5.alloc (.cells #[.int .i64 z.cyl, .int .i64 z.heads, .int .i64 (P : Int), .int .i64 z.size, .slice X N' c] 43)).alloc (.cells #[.slice Y ly cy] 47)).setCell ⟨w.heap.size + 1, 0, none⟩ (.int .i64 z.cyl)).setCell ⟨w.heap.size + 1, 1, none⟩ (.int .i64 z.heads)).setCell ⟨w.heap.size + 1, 2, none⟩ (.int .i64 (P : Int))).setCell ⟨w.heap.size + 1, 3, none⟩ (.int .i64 z.size)).setCell ⟨w.heap.size + 1, 4, none⟩ (.slice X N' c)).setCell ⟨w.heap.size + 2, 0, none⟩ (.slice Y ly cy))) := Lib.hid (Below.setCell (Below.setCell (Below.setCell (Below.setCell (Below.setCell (Below.setCell HBx.out (Nat.le_succ _) _) (Nat.le_succ _) _) (Nat.le_succ _) _) (Nat.le_succ _) _) (Nat.le_succ _) _) (by show w.heap.size ≤ w.heap.size + 2; omega) _)
    clear R9 Q9 G5 G9 HX HY HBx RD RC HR2a HR3a Ba RE4 l0 l1 l2 l3 hx hy
    go_wp2_with (fail)
    go_region_held3 (fun w' => w'.cell? ⟨w5.heap.size, 0, none⟩ = some (.int .i64 z.cyl) ∧ w'.cell? ⟨w5.heap.size, 1, none⟩ = some (.int .i64 z.heads) ∧ w'.cell? ⟨w5.heap.size, 2, none⟩ = some (.int .i64 (P : Int)) ∧ w'.cell? ⟨w5.heap.size, 3, none⟩ = some (.int .i64 z.size) ∧ w'.cell? ⟨w5.heap.size, 4, none⟩ = some (.slice X N' c) ∧ w'.cell? ⟨w5.heap.size + 1, 0, none⟩ = some (.slice Y ly cy))
      (first | with_reducible exact K0.out | with_reducible exact K5.out | with_reducible exact K9.out)
      (fail)
    go_wp2_with (fail)
    generalize ((((((((w5.alloc (.cells #[.int .i64 z.cyl, .int .i64 z.heads, .int .i64 (P : Int), .int .i64 z.size, .slice X N' c] 43)).alloc (.cells #[.slice Y ly cy] 47)).setCell ⟨w.heap.size + 1, 0, none⟩ (.int .i64 z.cyl)).setCell ⟨w.heap.size + 1, 1, none⟩ (.int .i64 z.heads)).setCell ⟨w.heap.size + 1, 2, none⟩ (.int .i64 (P : Int))).setCell ⟨w.heap.size + 1, 3, none⟩ (.int .i64 z.size)).setCell ⟨w.heap.size + 1, 4, none⟩ (.slice X N' c)).setCell ⟨w.heap.size + 2, 0, none⟩ (.slice Y ly cy)) = W9 at *
    exact bodyPost_ret (v := .tuple #[.agg #[.int .i64 z.cyl, .int .i64 z.heads, .int .i64 (P : Int), .int .i64 z.size, .slice X N' c], .agg #[.slice Y ly cy], .int .i64 0]) (by simp [results, Tryz.results28, go_sem, v0, v1, v2, v3, v4, v5] <;> rfl) rfl ⟨_, _, rfl, HX9.out, K, hxk, by omega, HY9.out, HB9.out.drew⟩
end Go.Proofs.YtfcdienphillnaaGreat
