/- Lists of discs as a representation. -/
import Derived.Test.YtignjjkldmninaaHDisc5
import Derived.Test.YtignjjkldmninaaHInt64
namespace Go.Proofs.Ytignjjkldmninaa
set_option linter.unusedVariables false
open Go.RowKit
def RDscS : Rep (List Dsc) where
  own B E w v l := ∃ w0 : World, DscTree B w0 v l ∧ w0.heap.size ≤ E ∧ w0.heap.size ≤ w.heap.size ∧ ∀ k, B ≤ k → k < w0.heap.size → w.heap[k]? = w0.heap[k]?
  raw w v l := DscIn w v l
  wt l := l.length + Dsc.wts l
  cnt l := Dsc.cnts l
  mark _ l := l
  chg := fun ⟨w0, h, hE, hz, hb⟩ hc hd => ⟨w0, h, hE, Nat.le_trans hz hc.size, fun k h1 h2 => (hc.block k (by omega) (by omega)).trans (hb k h1 h2)⟩
  rawk := fun h hb => h.below hb
theorem dsc_tree {B E : Nat} {w : World} {v : Value} {l : List Dsc} (h : RDscS.own B E w v l) : DscTree B w v l := by
  obtain ⟨w0, h, _, hz, hb⟩ := h
  exact h.blocks hz hb
theorem dsc_own {B E : Nat} {w : World} {v : Value} {l : List Dsc} (h : RDscS.own B E w v l) : DscOwn B w v l := (dsc_tree h).own
theorem dsc_in {w : World} {v : Value} {l : List Dsc} (r : RDscS.raw w v l) : ∀ d ∈ l, ∀ s ∈ d.secs, s.data.size ≤ maxLen := by
  obtain ⟨A, c, _, _, h⟩ := r
  rcases h with rfl | ⟨b, o, _, _, hc⟩
  · intro d hd; cases hd
  · intro d hd
    obtain ⟨k, hk, he⟩ := List.mem_iff_getElem.1 hd
    obtain ⟨bv, h1, _⟩ := hc k d (by rw [List.getElem?_eq_getElem hk, he])
    exact h1.2
theorem dsc_bl {l : List Dsc} {n : Nat} (q : RDscS.wt l ≤ n) : ∀ d ∈ l, d.secs.length ≤ n := fun e he => by
  have h1 := Dsc.wts_le he
  have h2 : e.secs.length ≤ e.wt := Nat.le_add_right _ _
  have h3 : l.length + Dsc.wts l ≤ n := q
  omega
theorem r_szDscS (l : List Dsc) (v : Value) (x0 : Int) (w : World) (h : RDscS.raw w v l) (hx : 0 ≤ x0 ∧ x0 ≤ 1048576) :
    Calls Try.prog 16 #[v, .int .i64 x0] w fun e w' => e = .returned (.int .i64 (szR x0 (RDscS.wt l))) ∧ Below w.heap.size w w' := szDscS l v x0 w h hx
theorem r_toDscS (l : List Dsc) (v : Value) (w : World) (h : RDscS.raw w v l) (hn : RDscS.wt l ≤ 1048576) :
    Calls Try.prog 18 #[v] w fun e w' => RDscS.ret w l e w' :=
  (toDscT l v w h (Nat.le_trans (Nat.le_add_right _ _) hn) (dsc_bl hn)).mono fun _ w' ⟨v', h1, h2, h3⟩ => ⟨v', h1, ⟨w', h2, Nat.le_refl _, Nat.le_refl _, fun _ _ _ => rfl⟩, h3⟩
theorem r_eqDscS (l : List Dsc) (va vb : Value) (B E B' E' : Nat) (w : World) (ha : RDscS.own B E w va l) (hb : RDscS.own B' E' w vb l) (hn : RDscS.wt l ≤ 1048576) :
    Calls Try.prog 20 #[va, vb] w fun e w' => e = .returned (.bool true) ∧ Below w.heap.size w w' :=
  eqDscS l va vb B B' w (dsc_own ha) (dsc_own hb) (by have : l.length + Dsc.wts l ≤ 1048576 := hn; omega) (fun e he => by have := dsc_bl hn e he; omega)
theorem r_markDscS (l : List Dsc) (v : Value) (k0 B E : Nat) (w : World) (h : RDscS.own B E w v l) (hn : RDscS.wt l ≤ 1048576) (h0 : 1 ≤ k0) (hk : k0 ≤ 33554432) :
    Calls Try.prog 44 #[v, .int .i64 k0] w fun e w' => e = .returned (.int .i64 ((k0 + RDscS.cnt l : Nat) : Int)) ∧ True ∧ Chg B E w w' := by
  obtain ⟨w0, h1, h2, h3, h4⟩ := h
  exact (markDscS l v k0 B w0 w h1 h3 h4 hn h0 hk).mono fun _ _ ⟨h1, h5⟩ => ⟨h1, trivial, h5.mono (Nat.le_refl _) h2⟩
end Go.Proofs.Ytignjjkldmninaa
