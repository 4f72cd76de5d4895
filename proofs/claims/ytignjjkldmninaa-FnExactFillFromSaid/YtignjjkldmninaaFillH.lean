/- FillFrom's law: the helpers over one disc, in the form that the walk uses. -/
import Derived.Test.YtignjjkldmninaaFillS
namespace Go.Proofs.Ytignjjkldmninaa
set_option linter.unusedVariables false
open Go.RowKit
abbrev OwnD (B E : Nat) (w : World) (v : Value) (l : List Sec) : Prop := RSectorS.own B E w v l
theorem OwnD.of {B : Nat} {w : World} {v : Value} {l : List Sec} (h : SecOwn B w v l) : OwnD B w.heap.size w v l := ⟨h, fun g hg => (World.ownsRow.lt h g hg).2⟩
theorem OwnD.below {B E : Nat} {w w' : World} {v : Value} {l : List Sec} (h : OwnD B E w v l) (hb : Below w.heap.size w w') : OwnD B E w' v l := Rep.keep (R := RSectorS) h hb
theorem OwnD.chg {B E B' E' : Nat} {w w' : World} {v : Value} {l : List Sec} (h : OwnD B E w v l) (hc : Chg B' E' w w') (hd : E ≤ B' ∨ E' ≤ B) : OwnD B E w' v l := RSectorS.chg h hc hd
theorem Row.chg {w w' : World} {b B E : Nat} {us : List Value} (h : Row w b us) (hc : Chg B E w w') (hl : b < w.heap.size) (hd : b < B ∨ E ≤ b) : Row w' b us := fun j u hu => (World.cell?_of_block (a := ⟨b, j, none⟩) (hc.block b hl (by omega))).trans (h j u hu)
abbrev Five (d : Dsc) (v : Value) (b : Nat) (w : World) : Prop := w.cell? ⟨b, 0, none⟩ = some (.int .i64 d.cyl) ∧ w.cell? ⟨b, 1, none⟩ = some (.int .i64 d.heads) ∧ w.cell? ⟨b, 2, none⟩ = some (.int .i64 d.per) ∧ w.cell? ⟨b, 3, none⟩ = some (.int .i64 d.size) ∧ w.cell? ⟨b, 4, none⟩ = some v
theorem Row.five {w : World} {b : Nat} {d : Dsc} {v : Value} (h : Row w b (dscL d v)) : Five d v b w := ⟨h 0 _ rfl, h 1 _ rfl, h 2 _ rfl, h 3 _ rfl, h 4 _ rfl⟩
theorem toDscR (d : Dsc) (bv : Value) (w : World) (h : SecIn w bv d.secs) (hn : d.secs.length ≤ 1048576) :
    Calls Try.prog 36 #[dscV d bv] w fun e w' => ∃ A c, e = .returned (dscV d (.slice A d.secs.length c)) ∧ OwnD w.heap.size w'.heap.size w' (.slice A d.secs.length c) d.secs ∧ Below w.heap.size w w' :=
  (toDsc d bv w h hn).mono fun e w' ⟨A, c, h1, h2, h3⟩ => ⟨A, c, h1, OwnD.of h2, h3⟩
set_option maxRecDepth 20000 in
set_option maxHeartbeats 2000000 in
theorem markDsc (d : Dsc) (v : Value) (k0 B E : Nat) (w : World) (h : OwnD B E w v d.secs) (hn : d.secs.length ≤ 1048576) (h0 : 1 ≤ k0) (hk : k0 ≤ 67108864) :
    Calls Try.prog 39 #[dscV d v, .int .i64 k0] w fun e w' => e = .returned (.int .i64 ((k0 + d.secs.length * 2 : Nat) : Int)) ∧ OwnD B E w' v (RSectorS.mark k0 d.secs) ∧ Chg B E w w' := by
  have HO := Lib.hid h
  obtain ⟨A, c, rfl, _⟩ := OwnL.shape h.1
  have HB : Below w.heap.size w (w.alloc (.cells #[.int .i64 d.cyl, .int .i64 d.heads, .int .i64 d.per, .int .i64 d.size, .slice A d.secs.length c] 39)) := Below.alloc (Below.refl _ _) (Nat.le_refl _) _
  have HM := Lib.hid (r_markSectorS d.secs (.slice A d.secs.length c) k0 B E _ (HO.out.below HB) (by show d.secs.length * 2 ≤ _; omega) h0 hk)
  clear h
  go_enter Try.func39, Try.ntmps39
  go_wp2_with (fail)
  refine HM.out.mono ?_; rintro e w1 ⟨rfl, o1, hc⟩
  go_wp2
  go_ret
  exact ⟨rfl, o1, (Chg.of_below HB).trans hc⟩
set_option maxRecDepth 20000 in
set_option maxHeartbeats 2000000 in
theorem heldDsc (d : Dsc) (v : Value) (k0 B E : Nat) (w : World) (h : OwnD B E w v (RSectorS.mark k0 d.secs)) (hn : d.secs.length ≤ 1048576) (h0 : 1 ≤ k0) (hk : k0 ≤ 67108864) (hv : ∃ A c, v = .slice A d.secs.length c) :
    Calls Try.prog 40 #[dscV d v, .int .i64 k0] w fun e w' => e = .returned (.int .i64 ((k0 + d.secs.length * 2 : Nat) : Int)) ∧ Below w.heap.size w w' := by
  have HO := Lib.hid h
  obtain ⟨A, c, rfl⟩ := hv
  have HB : Below w.heap.size w (w.alloc (.cells #[.int .i64 d.cyl, .int .i64 d.heads, .int .i64 d.per, .int .i64 d.size, .slice A d.secs.length c] 39)) := Below.alloc (Below.refl _ _) (Nat.le_refl _) _
  have HM := Lib.hid (r_heldSectorS d.secs (.slice A d.secs.length c) k0 B E _ (HO.out.below HB) (by show d.secs.length * 2 ≤ _; omega) h0 hk)
  have hk2 : ((k0 + RSectorS.cnt d.secs : Nat) : Int) = ((k0 + d.secs.length * 2 : Nat) : Int) := rfl
  have hlt : decide (((k0 + RSectorS.cnt d.secs : Nat) : Int) < 0) = false := by simp; omega
  clear h
  go_enter Try.func40, Try.ntmps40
  go_wp2_with (fail)
  refine HM.out.mono ?_; rintro e w1 ⟨rfl, hb⟩
  go_wp2
  go_ret
  exact ⟨rfl, HB.trans (hb.mono (by simp))⟩
theorem fillD_len {a b : Dsc} : (fillD a b).secs.length ≤ a.secs.length := by unfold fillD; split; exact Nat.le_of_eq (fillL_len _ _); exact Nat.zero_le _
/-- what the statement 'd, n, e := FillFrom(..)' leaves, whatever its order -/
def FillCut (w2 wx : World) (f : Dsc) (K E : Int) (p6 v7 v8 : Value) : Prop := ∃ g A c B E', p6 = .pointer (some ⟨g, 0, none⟩) ∧ v7 = .int .i64 K ∧ v8 = .int .i64 E ∧ Below w2.heap.size w2 wx ∧ Row wx g (dscL f (.slice A f.secs.length c)) ∧ w2.heap.size ≤ g ∧ g < wx.heap.size ∧ OwnD B E' wx (.slice A f.secs.length c) f.secs ∧ w2.heap.size ≤ B ∧ E' ≤ wx.heap.size ∧ (g < B ∨ E' ≤ g)
theorem cut_end {w2 w5 : World} {f : Dsc} {K E : Int} {A : Option Addr} {c B : Nat} (C : Below w2.heap.size w2 w5) (o : SecOwn B w5 (.slice A f.secs.length c) f.secs) (hB : w2.heap.size ≤ B) :
    FillCut w2 (w5.alloc (.cells #[.int .i64 f.cyl, .int .i64 f.heads, .int .i64 f.per, .int .i64 f.size, .slice A f.secs.length c] 39)) f K E (.pointer (some ⟨w5.heap.size, 0, none⟩)) (.int .i64 K) (.int .i64 E) := by
  have H : Below w5.heap.size w5 (w5.alloc (.cells #[.int .i64 f.cyl, .int .i64 f.heads, .int .i64 f.per, .int .i64 f.size, .slice A f.secs.length c] 39)) := Below.alloc (Below.refl _ _) (Nat.le_refl _) _
  exact ⟨w5.heap.size, A, c, B, w5.heap.size, rfl, rfl, rfl, C.trans (H.mono C.size), Row.alloc w5 _ _, C.size, by simp, (OwnD.of o).below H, hB, by simp, .inr (Nat.le_refl _)⟩
theorem cut_set {w2 w5 : World} {f : Dsc} {K E : Int} {A : Option Addr} {c B g : Nat} (C : Below w2.heap.size w2 w5) (o : SecOwn B w5 (.slice A f.secs.length c) f.secs) (Z : Row w5 g (dscL ⟨0, 0, 0, 0, []⟩ (.slice none 0 0))) (hg : w2.heap.size ≤ g) (hgB : g < B) (hgw : g < w5.heap.size) :
    FillCut w2 (setL w5 g 0 [.int .i64 f.cyl, .int .i64 f.heads, .int .i64 f.per, .int .i64 f.size, .slice A f.secs.length c]) f K E (.pointer (some ⟨g, 0, none⟩)) (.int .i64 K) (.int .i64 E) := by
  refine ⟨g, A, c, B, w5.heap.size, rfl, rfl, rfl, setL_below hg _ C, ?_, hg, by rw [setL_size]; exact hgw, ⟨setL_far hgB _ o, fun x hx => (World.ownsRow.lt o x hx).2⟩, by omega, by rw [setL_size]; exact Nat.le_refl _, .inl hgB⟩
  exact Z.setL [.int .i64 f.cyl, .int .i64 f.heads, .int .i64 f.per, .int .i64 f.size, .slice A f.secs.length c] (by simp)
end Go.Proofs.Ytignjjkldmninaa
