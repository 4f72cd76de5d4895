/- Small words for draws. -/
import Derived.Test.YtkpjjohanbiagaaDoorDraw2
import Derived.Test.YtkpjjohanbiagaaDoorBuf
namespace Go.Proofs.YtkpjjohanbiagaaDoor
set_option linter.unusedVariables false
set_option linter.unusedSimpArgs false
open Go.RowKit
def ucell (x : Nat) : List Value := [.int .u8 (x : Int)]
theorem ucell_len (x : Nat) : (ucell x).length = 1 := rfl
theorem ucell_info : (Tryd.prog.info? 5).map (fun i => (i.zero, i.size, i.bytes)) = some (some (.int .u8 0), 1, 1) := by kernel_rfl
abbrev BytesL (B : Nat) (w : World) (v : Value) (l : List Nat) : Prop := OwnL ucell 1 5 B w v l
theorem OwnL.blk {α : Type} {f : α → List Value} {z : Nat} {e : TypeId} {B : Nat} {w w' : World} {v : Value} {l : List α} (h : OwnL f z e B w v l) (hb : ∀ k, v.ownBlock = some k → w'.heap[k]? = w.heap[k]?) : OwnL f z e B w' v l := by
  refine ⟨h.1, ?_⟩
  rcases h.2 with hn | ⟨g, cap, cur, rfl, hbg, hh, rest⟩
  · exact .inl hn
  · exact .inr ⟨g, cap, cur, rfl, hbg, (hb g rfl).trans hh, rest⟩
theorem BytesL.buf {B g n c : Nat} {w : World} {l : List Nat} (h : BytesL B w (.slice (some ⟨g, 0, none⟩) n c) l) (hn : l.length = n) : Buf w g l := by
  subst hn
  intro j x hj
  have h1 := OwnL.cell ucell_len h hj (j := 0) rfl
  exact ⟨by simpa using h1, OwnL.frozen h⟩
theorem DrAt.grown {w w' : World} {g : Nat} {A : Option Addr} {n c a : Nat} {row : Option Nat} (h : DrAt w g A n c a) (hg : w.grownBy w' row) (hr : ∀ k, row = some k → g < k) : DrAt w' g A n c a :=
  h.keep (fun k hk => hg.block k (Nat.lt_of_le_of_lt hk h.lt) (by intro e; have := hr k e.symm; omega)) hg.size
theorem DrAt.alloc {w : World} {g : Nat} {A : Option Addr} {n c a : Nat} (h : DrAt w g A n c a) (o : Obj) : DrAt (w.alloc o) g A n c a :=
  h.grown (World.grownBy_alloc w o none) (by intro k hk; cases hk)
theorem DrAt.belowK {w w' : World} {g : Nat} {A : Option Addr} {n c a K : Nat} (h : DrAt w g A n c a) (hb : Below K w w') (hK : g < K) : DrAt w' g A n c a :=
  h.keep (fun k hk => hb.block k (Nat.lt_of_le_of_lt hk hK)) hb.size
theorem Chg.grown {B E : Nat} {a w w' : World} {row : Option Nat} (h : Chg B E a w) (hg : w.grownBy w' row) (hr : ∀ k, row = some k → a.heap.size ≤ k) : Chg B E a w' :=
  ⟨hg.os.trans h.os, hg.tape.trans h.tape, hg.output.trans h.output, Nat.le_trans h.size hg.size, fun k hk hne => (hg.block k (Nat.lt_of_lt_of_le hk h.size) (by intro e; have := hr k e.symm; omega)).trans (h.block k hk hne)⟩
theorem Chg.alloc {B E : Nat} {a w : World} (h : Chg B E a w) (o : Obj) : Chg B E a (w.alloc o) := h.grown (World.grownBy_alloc w o none) (by intro k hk; cases hk)
theorem Chg.belowK {B E K : Nat} {a w w' : World} (h : Chg B E a w) (hb : Below K w w') (hK : a.heap.size ≤ K) : Chg B E a w' :=
  ⟨hb.os.trans h.os, hb.tape.trans h.tape, hb.output.trans h.output, Nat.le_trans h.size hb.size, fun k hk hne => (hb.block k (by omega)).trans (h.block k hk hne)⟩
end Go.Proofs.YtkpjjohanbiagaaDoor
