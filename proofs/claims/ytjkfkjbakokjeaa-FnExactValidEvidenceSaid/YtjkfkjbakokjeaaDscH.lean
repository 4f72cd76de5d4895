/- The laws' own helpers over one disc, marks and rows of its box. -/
import Derived.Test.YtjkfkjbakokjeaaHDisc4
namespace Go.Proofs.Ytjkfkjbakokjeaa
set_option linter.unusedVariables false
open Go.RowKit
def Row (w : World) (b : Nat) (us : List Value) : Prop := ∀ j u, us[j]? = some u → w.cell? ⟨b, j, none⟩ = some u
theorem Row.below {w w' : World} {b : Nat} {us : List Value} (h : Row w b us) (hb : Below w.heap.size w w') (hl : b < w.heap.size) : Row w' b us := fun j u hu => (hb.cell (p := ⟨b, j, none⟩) hl).trans (h j u hu)
theorem Row.alloc (w : World) (cs : Array Value) (e : TypeId) : Row (w.alloc (.cells cs e)) w.heap.size cs.toList := by
  intro j u hu
  simp [go_sem]
  simpa using hu
abbrev dscL (d : Dsc) (v : Value) : List Value := [.int .i64 d.cyl, .int .i64 d.heads, .int .i64 d.per, .int .i64 d.size, v]
abbrev OwnD (B E : Nat) (w : World) (v : Value) (l : List Sec) : Prop := RSectorS.own B E w v l
theorem OwnD.of {B : Nat} {w : World} {v : Value} {l : List Sec} (h : SecOwn B w v l) : OwnD B w.heap.size w v l := ⟨h, fun g hg => (World.ownsRow.lt h g hg).2⟩
theorem OwnD.below {B E : Nat} {w w' : World} {v : Value} {l : List Sec} (h : OwnD B E w v l) (hb : Below w.heap.size w w') : OwnD B E w' v l := Rep.keep (R := RSectorS) h hb
theorem OwnD.chg {B E B' E' : Nat} {w w' : World} {v : Value} {l : List Sec} (h : OwnD B E w v l) (hc : Chg B' E' w w') (hd : E ≤ B' ∨ E' ≤ B) : OwnD B E w' v l := RSectorS.chg h hc hd
theorem Row.chg {w w' : World} {b B E : Nat} {us : List Value} (h : Row w b us) (hc : Chg B E w w') (hl : b < w.heap.size) (hd : b < B ∨ E ≤ b) : Row w' b us := fun j u hu => (World.cell?_of_block (a := ⟨b, j, none⟩) (hc.block b hl (by omega))).trans (h j u hu)
abbrev Five (d : Dsc) (v : Value) (b : Nat) (w : World) : Prop := w.cell? ⟨b, 0, none⟩ = some (.int .i64 d.cyl) ∧ w.cell? ⟨b, 1, none⟩ = some (.int .i64 d.heads) ∧ w.cell? ⟨b, 2, none⟩ = some (.int .i64 d.per) ∧ w.cell? ⟨b, 3, none⟩ = some (.int .i64 d.size) ∧ w.cell? ⟨b, 4, none⟩ = some v
theorem Row.five {w : World} {b : Nat} {d : Dsc} {v : Value} (h : Row w b (dscL d v)) : Five d v b w := ⟨h 0 _ rfl, h 1 _ rfl, h 2 _ rfl, h 3 _ rfl, h 4 _ rfl⟩
theorem toDscR (d : Dsc) (bv : Value) (w : World) (h : SecIn w bv d.secs) (hn : d.secs.length ≤ 1048576) :
    Calls Try.prog 20 #[dscV d bv] w fun e w' => ∃ A c, e = .returned (dscV d (.slice A d.secs.length c)) ∧ OwnD w.heap.size w'.heap.size w' (.slice A d.secs.length c) d.secs ∧ Below w.heap.size w w' :=
  (toDsc d bv w h hn).mono fun e w' ⟨A, c, h1, h2, h3⟩ => ⟨A, c, h1, OwnD.of h2, h3⟩
set_option maxRecDepth 20000 in
set_option maxHeartbeats 2000000 in
theorem markDsc (d : Dsc) (v : Value) (k0 B E : Nat) (w : World) (h : OwnD B E w v d.secs) (hn : d.secs.length ≤ 1048576) (h0 : 1 ≤ k0) (hk : k0 ≤ 67108864) :
    Calls Try.prog 23 #[dscV d v, .int .i64 k0] w fun e w' => e = .returned (.int .i64 ((k0 + d.secs.length * 2 : Nat) : Int)) ∧ OwnD B E w' v (RSectorS.mark k0 d.secs) ∧ Chg B E w w' := by
  have HO := Lib.hid h
  obtain ⟨A, c, rfl, _⟩ := OwnL.shape h.1
  have HB : Below w.heap.size w (w.alloc (.cells #[.int .i64 d.cyl, .int .i64 d.heads, .int .i64 d.per, .int .i64 d.size, .slice A d.secs.length c] 46)) := Below.alloc (Below.refl _ _) (Nat.le_refl _) _
  have HM := Lib.hid (r_markSectorS d.secs (.slice A d.secs.length c) k0 B E _ (HO.out.below HB) (by show d.secs.length * 2 ≤ _; omega) h0 hk)
  clear h
  go_enter Try.func23, Try.ntmps23
  go_wp2_with (fail)
  refine HM.out.mono ?_; rintro e w1 ⟨rfl, o1, hc⟩
  go_wp2
  go_ret
  exact ⟨rfl, o1, (Chg.of_below HB).trans hc⟩
end Go.Proofs.Ytjkfkjbakokjeaa
