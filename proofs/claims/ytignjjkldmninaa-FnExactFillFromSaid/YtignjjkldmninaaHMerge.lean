/- The laws' own helpers over merges: sizes, comparison. -/
import Derived.Test.YtignjjkldmninaaSameDs
import Derived.Test.YtignjjkldmninaaHDisc6
namespace Go.Proofs.Ytignjjkldmninaa
set_option linter.unusedVariables false
open Go.RowKit
structure Mrg where
  d : Dsc
  fr : List Int
  ag : List Int
abbrev mrgV (m : Mrg) (bv fv av : Value) : Value := .agg #[.int .i64 m.d.cyl, .int .i64 m.d.heads, .int .i64 m.d.per, .int .i64 m.d.size, bv, fv, av]
abbrev IntIn (w : World) (v : Value) (l : List Int) : Prop := RawL icell 1 w v l
/-- a merge that came in -/
structure MrgIn (w : World) (m : Mrg) (bv fv av : Value) : Prop where
  d : SecIn w bv m.d.secs
  fr : IntIn w fv m.fr
  ag : IntIn w av m.ag
theorem MrgIn.below {w w' : World} {m : Mrg} {bv fv av : Value} (h : MrgIn w m bv fv av) (hb : Below w.heap.size w w') : MrgIn w' m bv fv av := ⟨h.d.below hb, h.fr.below hb, h.ag.below hb⟩
/-- a merge that the call has made -/
structure MrgOwn (B : Nat) (w : World) (m : Mrg) (bv fv av : Value) : Prop where
  d : SecOwn B w bv m.d.secs
  fr : Int64L B w fv m.fr
  ag : Int64L B w av m.ag
theorem MrgOwn.below {B : Nat} {w w' : World} {m : Mrg} {bv fv av : Value} (h : MrgOwn B w m bv fv av) (hb : Below w.heap.size w w') : MrgOwn B w' m bv fv av := ⟨OwnL.below h.d hb, OwnL.below h.fr hb, OwnL.below h.ag hb⟩
theorem szR_m1 {x : Int} {n : Nat} (h : x < 0) : szR x n = -1 := szR_no (by omega)
def mrgZ (x : Int) (m : Mrg) : Int := szR (szR (szR x m.d.wt) m.fr.length) m.ag.length
set_option maxRecDepth 20000 in
set_option maxHeartbeats 4000000 in
theorem szMrg (m : Mrg) (bv fv av : Value) (x : Int) (w : World) (h : MrgIn w m bv fv av) (hx : 0 ≤ x ∧ x ≤ 1048576) :
    Calls Try.prog 21 #[mrgV m bv fv av, .int .i64 x] w fun e w' => e = .returned (.int .i64 (mrgZ x m)) ∧ Below w.heap.size w w' := by
  obtain ⟨⟨A, c, hv, _, _⟩, _⟩ := h.d
  obtain ⟨A1, c1, hv1, _, _⟩ := h.fr
  obtain ⟨A2, c2, hv2, _, _⟩ := h.ag
  subst hv
  subst hv1
  subst hv2
  have HB : Below w.heap.size w (w.alloc (.cells #[.int .i64 m.d.cyl, .int .i64 m.d.heads, .int .i64 m.d.per, .int .i64 m.d.size, .slice A m.d.secs.length c, .slice A1 m.fr.length c1, .slice A2 m.ag.length c2] 34)) := (by repeat (first | exact Below.refl _ _ | refine Below.alloc ?_ (by first | omega | (simp; done) | (simp; omega)) _ | apply Below.drew | apply below_drewN | refine Below.setCell ?_ (by first | omega | (simp; done) | (simp; omega)) _ | refine Below.trans ?_ (Below.mono (by assumption) (by first | omega | (simp; done) | (simp; omega)))))
  have HD := Lib.hid (szDsc m.d (.slice A m.d.secs.length c) x (w.alloc (.cells #[.int .i64 m.d.cyl, .int .i64 m.d.heads, .int .i64 m.d.per, .int .i64 m.d.size, .slice A m.d.secs.length c, .slice A1 m.fr.length c1, .slice A2 m.ag.length c2] 34)) (h.d.below HB) hx)
  have HF := Lib.hid (fun (y : Int) (w' : World) (hb : Below w.heap.size w w') (hy : 0 ≤ y ∧ y ≤ 1048576) => szInt64S m.fr (.slice A1 m.fr.length c1) y w' (h.fr.below hb) hy)
  have HA := Lib.hid (fun (y : Int) (w' : World) (hb : Below w.heap.size w w') (hy : 0 ≤ y ∧ y ≤ 1048576) => szInt64S m.ag (.slice A2 m.ag.length c2) y w' (h.ag.below hb) hy)
  have hy1 : szR x m.d.wt ≤ 1048576 := szR_le hx.2
  unfold mrgZ
  generalize szR x m.d.wt = y at *
  by_cases n1 : y < 0
  · have e1 : szR (szR y m.fr.length) m.ag.length = -1 := by rw [szR_m1 n1]; exact szR_m1 (by omega)
    rw [e1]
    go_enter Try.func21, Try.ntmps21
    go_wp2_with (fail)
    refine HD.out.mono ?_; rintro e w1 ⟨rfl, hb1⟩
    go_wp2
    go_ret
    exact ⟨rfl, HB.trans (hb1.mono (by simp))⟩
  · have HFY := Lib.hid (fun (w' : World) (hb : Below w.heap.size w w') => HF.out y w' hb ⟨by omega, hy1⟩)
    have hz1 : szR y m.fr.length ≤ 1048576 := szR_le hy1
    generalize szR y m.fr.length = z at *
    by_cases n2 : z < 0
    · rw [szR_m1 n2]
      go_enter Try.func21, Try.ntmps21
      go_wp2_with (fail)
      refine HD.out.mono ?_; rintro e w1 ⟨rfl, hb1⟩
      have B1 : Below w.heap.size w w1 := HB.trans (hb1.mono (by simp))
      have p5 : w1.cell? ⟨w.heap.size, 5, none⟩ = some (.slice A1 m.fr.length c1) := (hb1.cell (p := ⟨w.heap.size, 5, none⟩) (by simp)).trans (by simp)
      go_wp2_with (fail)
      refine (HFY.out w1 B1).mono ?_; rintro e w2 ⟨rfl, rfl⟩
      go_wp2
      go_ret
      exact ⟨rfl, B1⟩
    · have HAZ := Lib.hid (fun (w' : World) (hb : Below w.heap.size w w') => HA.out z w' hb ⟨by omega, hz1⟩)
      have hne : szR z m.ag.length < 0 → szR z m.ag.length = -1 := fun h => szR_no (szR_neg.1 h)
      generalize szR z m.ag.length = u at *
      by_cases n3 : u < 0
      · rw [hne n3]
        go_enter Try.func21, Try.ntmps21
        go_wp2_with (fail)
        refine HD.out.mono ?_; rintro e w1 ⟨rfl, hb1⟩
        have B1 : Below w.heap.size w w1 := HB.trans (hb1.mono (by simp))
        have p5 : w1.cell? ⟨w.heap.size, 5, none⟩ = some (.slice A1 m.fr.length c1) := (hb1.cell (p := ⟨w.heap.size, 5, none⟩) (by simp)).trans (by simp)
        have p6 : w1.cell? ⟨w.heap.size, 6, none⟩ = some (.slice A2 m.ag.length c2) := (hb1.cell (p := ⟨w.heap.size, 6, none⟩) (by simp)).trans (by simp)
        go_wp2_with (fail)
        refine (HFY.out w1 B1).mono ?_; rintro e w2 ⟨rfl, rfl⟩
        go_wp2_with (fail)
        refine (HAZ.out _ B1).mono ?_; rintro e w3 ⟨rfl, rfl⟩
        go_wp2
        go_ret
        exact ⟨rfl, B1⟩
      · go_enter Try.func21, Try.ntmps21
        go_wp2_with (fail)
        refine HD.out.mono ?_; rintro e w1 ⟨rfl, hb1⟩
        have B1 : Below w.heap.size w w1 := HB.trans (hb1.mono (by simp))
        have p5 : w1.cell? ⟨w.heap.size, 5, none⟩ = some (.slice A1 m.fr.length c1) := (hb1.cell (p := ⟨w.heap.size, 5, none⟩) (by simp)).trans (by simp)
        have p6 : w1.cell? ⟨w.heap.size, 6, none⟩ = some (.slice A2 m.ag.length c2) := (hb1.cell (p := ⟨w.heap.size, 6, none⟩) (by simp)).trans (by simp)
        go_wp2_with (fail)
        refine (HFY.out w1 B1).mono ?_; rintro e w2 ⟨rfl, rfl⟩
        go_wp2_with (fail)
        refine (HAZ.out _ B1).mono ?_; rintro e w3 ⟨rfl, rfl⟩
        go_wp2
        go_ret
        exact ⟨rfl, B1⟩
end Go.Proofs.Ytignjjkldmninaa
