/- A disc without contents, the reference: the walk. Sources sorted in place, strictly by sector. -/
import Derived.Test.YtddihmpiaemadaaGreatDoorFc25
import Derived.Test.YtddihmpiaemadaaGreatDoorFc18
import Derived.Shelf.SlSortCmp.WholeK
import Derived.Shelf.SlSortCmp.NoneTotal
namespace Go.Proofs.YtddihmpiaemadaaGreatDoor
set_option linter.unusedVariables false
set_option linter.unusedSimpArgs false
open Go.RowKit
theorem own_nb {B g : Nat} {w w' : World} {v : Value} {l : List Sec} (h : SecOwn B w v l) (hg : g < B) : v.ownBlock ≠ some g := fun e => by have := (World.ownsRow.lt h g e).1; omega
theorem grown_cell {w w' : World} {row : Option Nat} {b o : Nat} {u : Value} (hg : w.grownBy w' row) (hb : b < w.heap.size) (hne : row ≠ some b) (h : w.cell? ⟨b, o, none⟩ = some u) : w'.cell? ⟨b, o, none⟩ = some u :=
  (World.cell?_of_block (a := ⟨b, o, none⟩) (hg.block b hb (fun e => hne e.symm))).trans h
theorem grown_row {w w' : World} {row : Option Nat} {b : Nat} {us : List Value} (hg : w.grownBy w' row) (hb : b < w.heap.size) (hne : row ≠ some b) (h : Row w b us) : Row w' b us := fun j u hu => grown_cell hg hb hne (h j u hu)
theorem grown_frozen {w w' : World} {row : Option Nat} {b : Nat} (hg : w.grownBy w' row) (hb : b < w.heap.size) (hne : row ≠ some b) (h : ∀ o, w.frozen? ⟨b, o, none⟩ = false) : ∀ o, w'.frozen? ⟨b, o, none⟩ = false := fun o =>
  (World.frozen?_of_block (a := ⟨b, o, none⟩) (hg.block b hb (fun e => hne e.symm))).trans (h o)
set_option maxRecDepth 20000 in
set_option maxHeartbeats 8000000 in
theorem new_s (c h p s : Int) (T N : Nat) (w : World) (hT : c * h = (T : Int)) (hN : (T : Int) * p = (N : Int)) (hT1 : T ≤ 1048576) (hN1 : N ≤ 1048576) (hs : 0 ≤ s ∧ s ≤ 2) :
    Calls Tryz.prog 97 #[.int .i64 c, .int .i64 h, .int .i64 p, .int .i64 s] w fun r w' => ∃ v', r = .returned (.agg #[.int .i64 c, .int .i64 h, .int .i64 p, .int .i64 s, v']) ∧ SecOwn w.heap.size w' v' (List.replicate N (zSec (szN s))) ∧ Below w.heap.size w w' := by
  obtain ⟨i0, hi, hz0, hz1, hz2⟩ := info_parts secv_info
  have hm := szN_le hs
  obtain ⟨RR0, RB0, FB0, HB0, zz0⟩ := boxes2 w #[.int .i64 0, .int .i64 0, .int .i64 0, .int .i64 0, .slice none 0 0] #[.int .i64 c, .int .i64 h, .int .i64 p, .int .i64 s, .slice none 0 0] 32 32
  have FR0 : ∀ o, ((((w.alloc (.cells #[.int .i64 0, .int .i64 0, .int .i64 0, .int .i64 0, .slice none 0 0] 32))).alloc (.cells #[.int .i64 c, .int .i64 h, .int .i64 p, .int .i64 s, .slice none 0 0] 32))).frozen? ⟨w.heap.size, o, none⟩ = false := fun o => frozen_below (frozen_alloc w _ _) (Below.alloc (Below.refl _ _) (Nat.le_refl _) _) (by simp) o
  go_enter Tryz.func97, Tryz.ntmps97
  go_wp2_with (fail)
  generalize (((w.alloc (.cells #[.int .i64 0, .int .i64 0, .int .i64 0, .int .i64 0, .slice none 0 0] 32))).alloc (.cells #[.int .i64 c, .int .i64 h, .int .i64 p, .int .i64 s, .slice none 0 0] 32)) = w2 at *
  go_loopw [10] (fun ii wr => ∃ (q : Nat) (v : Value), q ≤ N ∧ ii = .int .i64 ((N : Int) - (q : Int)) ∧ Below w.heap.size w wr ∧ Hid (SecOwn (w.heap.size + 2) wr v (List.replicate q (zSec (szN s)))) ∧ Hid (Row wr (w.heap.size + 1) [.int .i64 c, .int .i64 h, .int .i64 p, .int .i64 s, v]) ∧ Hid (∀ o, wr.frozen? ⟨w.heap.size + 1, o, none⟩ = false) ∧ Hid (Row wr w.heap.size [.int .i64 0, .int .i64 0, .int .i64 0, .int .i64 0, .slice none 0 0]) ∧ Hid (∀ o, wr.frozen? ⟨w.heap.size, o, none⟩ = false) ∧ w.heap.size + 2 ≤ wr.heap.size) (fun ii _ => (intOf ii).toNat)
  case atStart => exact ⟨0, .slice none 0 0, by omega, by simp, HB0, Lib.hid OwnL.of_nil, Lib.hid RB0, Lib.hid FB0, Lib.hid RR0, Lib.hid FR0, by omega⟩
  case round =>
    obtain ⟨q, v, hq, rfl, hb, HOW, HRB, HFB, HRR, HFR, hz⟩ := hrel
    have zr := hb.size
    have b4 := HRB.out 4 _ rfl
    by_cases hlt : q < N
    · have hZ := Lib.hid (zeros_s (szN s) wr.drew (by omega))
      have hBY := Lib.hid (fun (w' : World) => bytes_s s w' hs)
      have hd1 : decide ((N : Int) - (q : Int) > 0) = true := decide_eq_true (by omega)
      have hd2 : decide (0 < (N : Int) - (q : Int)) = true := decide_eq_true (by omega)
      have hone : ∀ u ∈ Sec.cells (zSec (szN s)), u.oneCell' = true := by simp [Sec.cells, Value.oneCell']
      have hl1 : (List.replicate q (zSec (szN s))).length + 1 ≤ 16777216 := by rw [List.length_replicate]; omega
      have hd3 : ¬ N ≤ q := by omega
      obtain ⟨M, hM⟩ : ∃ M : Nat, (N : Int) - (q : Int) = (M : Int) := ⟨N - q, by omega⟩
      have hM1 : 1 ≤ M := by omega
      have hM2 : M ≤ 1048576 := by omega
      go_wp2_with (fail)
      go_region_law (first
        | (refine step_appP Sec.cells 2 Sec.len _ (by rfl) _ _ _ (by rfl) (w.heap.size + 2) 56 i0 (.agg #[.string .empty, .int .i64 0]) 24 Tryz.underlying30 hi hz0 hz1 hz2 rfl (by decide) v (List.replicate q (zSec (szN s))) (by rfl) HOa.out _ 1 (zSec (szN s)) (by rfl) HRA.out hone hl1 (by decide) hbase ?_; intro g7 c7 w7 how7 hg7 hat7; have HOW7 := Lib.hid how7; have HR7 := Lib.hid (grown_row hg7 hlb1 hnb1 HRBa.out); have HF7 := Lib.hid (grown_frozen hg7 hlb1 hnb1 HFBa.out); have HRR7 := Lib.hid (grown_row hg7 hlb0 hnb0 HRRa.out); have HFR7 := Lib.hid (grown_frozen hg7 hlb0 hnb0 HFRa.out); have HB7 := Lib.hid (own_grown_below HOa.out HBa.out hg7 hK2 hbase2); have z7 := hg7.size; have t4 := HR7.out 4 _ rfl; have t5 := HF7.out 4; clear how7 hg7)
        | (go_simp; first
          | (go_at_call 57; refine (hBY.out _).mono ?_; rintro r w5 ⟨rfl, rfl⟩)
          | (go_at_call 79; refine hZ.out.mono ?_; rintro r w6 ⟨rfl, hb6⟩; have HB6 := Lib.hid ((Below.refl wr.heap.size wr).drew.trans hb6); have hz6 : wr.heap.size ≤ w6.heap.size := HB6.out.size; have HBS : Below wr.heap.size wr (w6.alloc (.cells #[.string (strN (List.replicate (szN s) 0)), .int .i64 3] 56)) := HB6.out.alloc hz6 _; have HOa := Lib.hid (OwnL.below HOW.out HBS); have HRBa := Lib.hid (HRB.out.below HBS (by omega)); have HFBa := Lib.hid (frozen_below HFB.out HBS (by omega)); have HRRa := Lib.hid (HRR.out.below HBS (by omega)); have HFRa := Lib.hid (frozen_below HFR.out HBS (by omega)); have HBa := Lib.hid (hb.trans (HBS.mono zr)); have HRA := Lib.hid (Row.alloc w6 #[.string (strN (List.replicate (szN s) 0)), .int .i64 3] 56); have hzs : (w6.alloc (.cells #[.string (strN (List.replicate (szN s) 0)), .int .i64 3] 56)).heap.size = w6.heap.size + 1 := (by simp); have hbase : w.heap.size + 2 ≤ (w6.alloc (.cells #[.string (strN (List.replicate (szN s) 0)), .int .i64 3] 56)).heap.size := (by rw [hzs]; omega); have hbase2 : w.heap.size ≤ (w6.alloc (.cells #[.string (strN (List.replicate (szN s) 0)), .int .i64 3] 56)).heap.size := (by rw [hzs]; omega); have hlb1 : w.heap.size + 1 < (w6.alloc (.cells #[.string (strN (List.replicate (szN s) 0)), .int .i64 3] 56)).heap.size := (by rw [hzs]; omega); have hlb0 : w.heap.size < (w6.alloc (.cells #[.string (strN (List.replicate (szN s) 0)), .int .i64 3] 56)).heap.size := (by rw [hzs]; omega); have hnb1 : v.ownBlock ≠ some (w.heap.size + 1) := own_nb (w' := w) HOa.out (by omega); have hnb0 : v.ownBlock ≠ some w.heap.size := own_nb (w' := w) HOa.out (by omega); have hK2 : w.heap.size ≤ w.heap.size + 2 := (by omega); have b46 : w6.cell? ⟨w.heap.size + 1, 4, none⟩ = some v := (HRB.out.below HB6.out (by omega)) 4 _ rfl; have b47 : (w6.alloc (.cells #[.string (strN (List.replicate (szN s) 0)), .int .i64 3] 56)).cell? ⟨w.heap.size + 1, 4, none⟩ = some v := HRBa.out 4 _ rfl; clear hb6; dsimp only)))
      all_goals
        have HO8 := far_set (o := 4) (u := .slice (some ⟨g7, 0, none⟩) (q + 1) c7) HOW7.out (g := w.heap.size + 1) (by omega)
        rw [List.length_replicate] at HO8
        have hrep : List.replicate q (zSec (szN s)) ++ [zSec (szN s)] = List.replicate (q + 1) (zSec (szN s)) := List.replicate_succ'.symm
        rw [hrep] at HO8
        have HR8 := HR7.out.set (o := 4) (.slice (some ⟨g7, 0, none⟩) (q + 1) c7) (by simp)
        have HF8 : ∀ o, (w7.setCell ⟨w.heap.size + 1, 4, none⟩ (.slice (some ⟨g7, 0, none⟩) (q + 1) c7)).frozen? ⟨w.heap.size + 1, o, none⟩ = false := fun o => by rw [setCell_frozen]; exact HF7.out o
        have HRR8 := HRR7.out.set_other (g := w.heap.size + 1) (o := 4) (.slice (some ⟨g7, 0, none⟩) (q + 1) c7) (by omega)
        have HFR8 : ∀ o, (w7.setCell ⟨w.heap.size + 1, 4, none⟩ (.slice (some ⟨g7, 0, none⟩) (q + 1) c7)).frozen? ⟨w.heap.size, o, none⟩ = false := fun o => by rw [setCell_frozen]; exact HFR7.out o
        have HB8 : Below w.heap.size w (w7.setCell ⟨w.heap.size + 1, 4, none⟩ (.slice (some ⟨g7, 0, none⟩) (q + 1) c7)) := Below.setCell HB7.out (by show w.heap.size ≤ w.heap.size + 1; omega) _
        have hz8 : w.heap.size + 2 ≤ (w7.setCell ⟨w.heap.size + 1, 4, none⟩ (.slice (some ⟨g7, 0, none⟩) (q + 1) c7)).heap.size := by rw [setCell_size]; omega
        clear b4 b46 b47 t4 t5
        go_wp2_with (fail)
        go_roundw
        case rel => exact ⟨q + 1, .slice (some ⟨g7, 0, none⟩) (q + 1) c7, by omega, by rw [show ((N : Int) - ((q + 1 : Nat) : Int)) = (M : Int) - 1 by omega], HB8, Lib.hid HO8, Lib.hid HR8, Lib.hid HF8, Lib.hid HRR8, Lib.hid HFR8, hz8⟩
        case measure => simp [intOf]; omega
    · obtain rfl : q = N := by omega
      have HO := HOW.out
      obtain ⟨Av, cv, hv, _⟩ := OwnL.shape HO
      rw [List.length_replicate] at hv
      subst hv
      have b4' := HRB.out 4 _ rfl
      have x0 := HRB.out 0 _ rfl
      have x1 := HRB.out 1 _ rfl
      have x2 := HRB.out 2 _ rfl
      have x3 := HRB.out 3 _ rfl
      have y0 := HRR.out 0 _ rfl
      have y1 := HRR.out 1 _ rfl
      have y2 := HRR.out 2 _ rfl
      have y3 := HRR.out 3 _ rfl
      have y4 := HRR.out 4 _ rfl
      have f0 := HFR.out 0
      have f1 := HFR.out 1
      have f2 := HFR.out 2
      have f3 := HFR.out 3
      have f4 := HFR.out 4
      have R9 := set5_row HRR.out (.int .i64 c) (.int .i64 h) (.int .i64 p) (.int .i64 s) (.slice Av q cv)
      have v0 := R9 0 _ rfl
      have v1 := R9 1 _ rfl
      have v2 := R9 2 _ rfl
      have v3 := R9 3 _ rfl
      have v4 := R9 4 _ rfl
      have HO9 : SecOwn (w.heap.size + 2) (((((wr.setCell ⟨w.heap.size, 0, none⟩ (.int .i64 c)).setCell ⟨w.heap.size, 1, none⟩ (.int .i64 h)).setCell ⟨w.heap.size, 2, none⟩ (.int .i64 p)).setCell ⟨w.heap.size, 3, none⟩ (.int .i64 s)).setCell ⟨w.heap.size, 4, none⟩ (.slice Av q cv)) (.slice Av q cv) (List.replicate q (zSec (szN s))) := far_set (far_set (far_set (far_set (far_set HO (by omega)) (by omega)) (by omega)) (by omega)) (by omega)
      have HB9 : Below w.heap.size w (((((wr.setCell ⟨w.heap.size, 0, none⟩ (.int .i64 c)).setCell ⟨w.heap.size, 1, none⟩ (.int .i64 h)).setCell ⟨w.heap.size, 2, none⟩ (.int .i64 p)).setCell ⟨w.heap.size, 3, none⟩ (.int .i64 s)).setCell ⟨w.heap.size, 4, none⟩ (.slice Av q cv)) := Below.setCell (Below.setCell (Below.setCell (Below.setCell (Below.setCell hb (Nat.le_refl _) _) (Nat.le_refl _) _) (Nat.le_refl _) _) (Nat.le_refl _) _) (Nat.le_refl _) _
      rw [Int.sub_self]
      clear HO b4
      go_wp2_with (fail)
      generalize (((((wr.setCell ⟨w.heap.size, 0, none⟩ (.int .i64 c)).setCell ⟨w.heap.size, 1, none⟩ (.int .i64 h)).setCell ⟨w.heap.size, 2, none⟩ (.int .i64 p)).setCell ⟨w.heap.size, 3, none⟩ (.int .i64 s)).setCell ⟨w.heap.size, 4, none⟩ (.slice Av q cv)) = W9 at *
      exact bodyPost_ret (v := .agg #[.int .i64 c, .int .i64 h, .int .i64 p, .int .i64 s, .slice Av q cv]) (by simp [results, Tryz.results97, go_sem, v0, v1, v2, v3, v4] <;> rfl) rfl ⟨_, rfl, OwnL.base HO9 (by omega), HB9⟩
end Go.Proofs.YtddihmpiaemadaaGreatDoor
namespace Go.Proofs.YtddihmpiaemadaaGreatDoor
set_option linter.unusedVariables false
set_option linter.unusedSimpArgs false
open Go.RowKit Go.Sort
/-- sources whose sectors are small -/
abbrev SrcS := {e : Src // 0 ≤ e.sector ∧ e.sector ≤ 1048576}
instance : Inhabited SrcS := ⟨⟨⟨0, 0, 0⟩, by decide, by decide⟩⟩
def encS (x : SrcS) : List Value := x.1.cells
def cmpS (x y : SrcS) : Int := x.1.sector - y.1.sector
theorem ltS (x y : SrcS) : Go.Proofs.ltOf cmpS x y = decide (x.1.sector < y.1.sector) := by
  unfold Go.Proofs.ltOf cmpS
  rw [decide_eq_decide]; omega
theorem swoS : SWO (Go.Proofs.ltOf cmpS) where
  irrefl x := by rw [ltS]; simp
  trans x y z h1 h2 := by rw [ltS] at *; simp at *; omega
  ntrans x y z h1 h2 := by rw [ltS] at *; simp at *; omega
def srL (d : Array SrcS) : List Src := d.toList.map (·.1)
theorem srL_len (d : Array SrcS) : (srL d).length = d.size := by simp [srL]
theorem srL_at {d : Array SrcS} {k : Nat} (h : k < d.size) : (srL d)[k]? = some (d[k]!).1 := by
  unfold srL
  rw [List.getElem?_map, Array.getElem?_toList, Array.getElem?_eq_getElem h, getElem!_pos d k h]; rfl
theorem encS_at {d : Array SrcS} {j : Nat} : ((d[j / 3]!).1.cells)[j % 3]? = some ((encS d[j / 3]!)[j % 3]!) := by
  unfold encS
  have : j % 3 = 0 ∨ j % 3 = 1 ∨ j % 3 = 2 := by omega
  rcases this with h | h | h <;> rw [h] <;> rfl
theorem holds_srcs {T : TypeId} {B g n c : Nat} {w : World} {d : Array SrcS} (h : OwnL Src.cells 3 T B w (.slice (some ⟨g, 0, none⟩) n c) (srL d)) : HoldsK encS 3 w g 0 d := by
  intro j hj
  have hj' : j < d.size * 3 := by simpa using hj
  have hd : j / 3 < d.size := by omega
  refine ⟨?_, by simpa using OwnL.frozen h⟩
  rw [get_flatK _ _ _ _ hj', Nat.zero_add]
  have := OwnL.at1 Src.len h (srL_at hd) encS_at
  rw [show j / 3 * 3 + j % 3 = j by omega] at this; exact this
theorem putCells_getS {F c : Array Value} {j : Nat} (hj : j < F.size) (hc : j < c.size) : (putCells id 0 F c)[j]? = some F[j]! := by
  unfold putCells
  rw [Array.getElem?_mapIdx, Array.getElem?_eq_getElem hc]
  simp [hj]
theorem own_sortedS {T : TypeId} {B g n c m : Nat} {w : World} {d d' : Array SrcS} {os : Array Obj} (h : OwnL Src.cells 3 T B w (.slice (some ⟨g, 0, none⟩) n c) (srL d)) (hs : d'.size = d.size) : OwnL Src.cells 3 T B (sortWorldK encS 3 w g 0 m d' os) (.slice (some ⟨g, 0, none⟩) n c) (srL d') := by
  obtain ⟨A, c', e1, _⟩ := h.shape
  injection e1 with e2 e3 e4
  obtain ⟨h1, h2⟩ := h
  rcases h2 with ⟨hn, _⟩ | ⟨g', cap, cur, he, hB, hh, hnc, hm, hcs, htk⟩
  · cases hn
  injection he with e5 e6 e7
  injection e5 with e5
  injection e5 with e5 _ _
  subst e5 e7
  rw [srL_len] at e6 hnc htk
  have hg : g < w.heap.size := (Array.getElem?_eq_some_iff.1 hh).1
  have hsz : (srL d').length = d.size := by rw [srL_len, hs]
  have hcur : (srL d').length * 3 ≤ cur.size := by rw [hsz, hcs]; omega
  refine ⟨by rw [flat_len Src.len], .inr ⟨g, c, putCells id 0 (flatK encS 3 d') cur, by rw [hsz, e6], hB, ?_, by rw [hsz]; exact hnc, hm, by simp [putCells, hcs], ?_⟩⟩
  · show (grow (putRow id (Go.Sort.ahead w m) g 0 (flatK encS 3 d')) os).heap[g]? = _
    rw [heap_grow_old _ _ (by simp; exact hg)]
    show ((Go.Sort.ahead w m).heap.modify g (onCells (putCells id 0 (flatK encS 3 d'))))[g]? = _
    rw [Array.getElem?_modify, if_pos rfl]
    show (w.heap[g]?).map _ = _
    rw [hh]; rfl
  · apply List.ext_getElem?
    intro j
    rw [List.getElem?_take]
    by_cases hj : j < (srL d').length * 3
    · rw [if_pos hj, Array.getElem?_toList]
      have hj2 : j < d'.size * 3 := by rw [srL_len] at hj; exact hj
      have hd : j / 3 < d'.size := by omega
      rw [putCells_getS (by simpa using hj2) (by omega), get_flatK _ _ _ _ hj2]
      have := flat_get Src.len (srL_at hd) (j := j % 3) (by omega)
      rw [show j / 3 * 3 + j % 3 = j by omega] at this
      rw [this, encS_at]
    · rw [if_neg hj, List.getElem?_eq_none (by rw [flat_len Src.len]; omega)]
theorem below_sortedS {g m : Nat} {w : World} {d' : Array SrcS} {os : Array Obj} (hg : g < w.heap.size) : Below g w (sortWorldK encS 3 w g 0 m d' os) := by
  refine ⟨rfl, rfl, rfl, ?_, fun k hk => ?_⟩
  · show _ ≤ (grow (putRow id (Go.Sort.ahead w m) g 0 (flatK encS 3 d')) os).heap.size
    simp
  · show (grow (putRow id (Go.Sort.ahead w m) g 0 (flatK encS 3 d')) os).heap[k]? = _
    rw [heap_grow_old _ _ (by simp; omega)]
    show ((Go.Sort.ahead w m).heap.modify g (onCells (putCells id 0 (flatK encS 3 d'))))[k]? = _
    rw [Array.getElem?_modify, if_neg (by omega)]; rfl
theorem ext_allS (d : Array SrcS) {n : Nat} (h : d.size = n) : d.extract 0 n = d := by subst h; simp
/-- sources in rising order of sectors -/
def SrtL (l : List Src) : Prop := l.Pairwise fun a b => a.sector < b.sector
theorem sorted_srcs {d d' : Array SrcS} (hp : PermIn 0 d.size d d') (hs : SortedIn (Go.Proofs.ltOf cmpS) 0 d.size d') (hd : (srL d).Pairwise fun a b => a.sector ≠ b.sector) : (srL d').Perm (srL d) ∧ SrtL (srL d') := by
  obtain ⟨h1, _, h2⟩ := hp
  rw [ext_allS d' h1, ext_allS d rfl] at h2
  have hP : (srL d').Perm (srL d) := h2.map _
  refine ⟨hP, ?_⟩
  have hsep' : (srL d').Pairwise fun a b => a.sector ≠ b.sector := (hP.pairwise_iff (fun h => fun e => h e.symm)).2 hd
  have hsep := List.pairwise_iff_getElem.1 hsep'
  refine List.pairwise_iff_getElem.2 fun i j hi hj hij => ?_
  have h3 := hsep i j hi hj hij
  have hi' : i < d'.size := by rw [srL_len] at hi; exact hi
  have hj' : j < d'.size := by rw [srL_len] at hj; exact hj
  have ei : (srL d')[i] = (d'[i]!).1 := Option.some.inj ((List.getElem?_eq_getElem hi).symm.trans (srL_at hi'))
  have ej : (srL d')[j] = (d'[j]!).1 := Option.some.inj ((List.getElem?_eq_getElem hj).symm.trans (srL_at hj'))
  have h4 := hs i j (Nat.zero_le _) hij (by omega)
  rw [ltS] at h4
  have h5 := of_decide_eq_false h4
  rw [ei, ej] at h3 ⊢
  omega
/-- two rising lists with the same sources are one -/
theorem srt_eq {a b : List Src} (ha : SrtL a) (hb : SrtL b) (hp : a.Perm b) : a = b :=
  hp.eq_of_pairwise (fun x y _ _ h1 h2 => by omega) ha hb
theorem as_srcs {a : List Src} (h : ∀ s ∈ a, 0 ≤ s.sector ∧ s.sector ≤ 1048576) : ∃ d : Array SrcS, srL d = a := by
  induction a with
  | nil => exact ⟨#[], rfl⟩
  | cons e a ih =>
    obtain ⟨d, hd⟩ := ih fun s hs => h s (List.mem_cons_of_mem _ hs)
    refine ⟨((⟨e, h e List.mem_cons_self⟩ : SrcS) :: d.toList).toArray, ?_⟩
    unfold srL at hd ⊢
    simp [hd]
end Go.Proofs.YtddihmpiaemadaaGreatDoor
