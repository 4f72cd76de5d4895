/- The laws' own helpers over evidence: sizes, copies, comparison. Printed by gen_evd.py. -/
import Derived.Test.YtfcdienphillnaaGreatLr05
namespace Go.Proofs.YtfcdienphillnaaGreat
set_option linter.unusedVariables false
set_option linter.unusedSimpArgs false
open Go.RowKit
structure Evd where
  ds : List Dsc
  cr : List Int
  p : List ByteArray
  q : List ByteArray
abbrev evV (a b c d : Value) : Value := .agg #[a, b, c, d]
abbrev StrIn (w : World) (v : Value) (l : List ByteArray) : Prop := RawL scell 1 w v l ∧ ∀ e ∈ l, e.size ≤ maxLen
theorem RawL.far {α : Type} {f : α → List Value} {z : Nat} {w w' : World} {v : Value} {l : List α} (h : RawL f z w v l) (hb : Below w.heap.size w w') : RawL f z w' v l := h.below hb
/-- evidence that came in -/
structure EvIn (w : World) (e : Evd) (a b c d : Value) : Prop where
  ds : DscIn w a e.ds
  cr : RawL icell 1 w b e.cr
  p : StrIn w c e.p
  q : StrIn w d e.q
theorem EvIn.below {w w' : World} {e : Evd} {a b c d : Value} (h : EvIn w e a b c d) (hb : Below w.heap.size w w') : EvIn w' e a b c d := ⟨h.ds.below hb, h.cr.below hb, ⟨h.p.1.below hb, h.p.2⟩, ⟨h.q.1.below hb, h.q.2⟩⟩
theorem DscOwn.far {B g o : Nat} {w : World} {v u : Value} {l : List Dsc} (h : DscOwn B w v l) (hg : g < B) : DscOwn B (w.setCell ⟨g, o, none⟩ u) v l := by
  obtain ⟨A, c, rfl, hA⟩ := h
  refine ⟨A, c, rfl, ?_⟩
  rcases hA with hA | ⟨k, rfl, hk, hlt, hc⟩
  · exact .inl hA
  · refine .inr ⟨k, rfl, hk, by simpa using hlt, fun i e he => ?_⟩
    obtain ⟨bv, o1, c1⟩ := hc i e he
    exact ⟨bv, far_set o1 hg, fun j u hu => (World.cell?_setCell_other _ _ _ _ (by intro e; injection e with e _ _; omega)).trans (c1 j u hu)⟩
theorem DscOwn.base {B B' : Nat} {w : World} {v : Value} {l : List Dsc} (h : DscOwn B w v l) (hB : B' ≤ B) : DscOwn B' w v l := by
  obtain ⟨A, c, rfl, hA⟩ := h
  refine ⟨A, c, rfl, ?_⟩
  rcases hA with hA | ⟨k, rfl, hk, hlt, hc⟩
  · exact .inl hA
  · refine .inr ⟨k, rfl, Nat.le_trans hB hk, hlt, fun i e he => ?_⟩
    obtain ⟨bv, o1, c1⟩ := hc i e he
    exact ⟨bv, OwnL.base o1 hB, c1⟩
theorem DscOwn.shape {B : Nat} {w : World} {v : Value} {l : List Dsc} (h : DscOwn B w v l) : ∃ A c, v = .slice A l.length c := by
  obtain ⟨A, c, rfl, _⟩ := h
  exact ⟨A, c, rfl⟩
/-- evidence that the call has made -/
structure EvOwn (B : Nat) (w : World) (e : Evd) (a b c d : Value) : Prop where
  ds : DscOwn B w a e.ds
  cr : Int64L B w b e.cr
  p : StringL B w c e.p
  q : StringL B w d e.q
theorem EvOwn.below {B : Nat} {w w' : World} {e : Evd} {a b c d : Value} (h : EvOwn B w e a b c d) (hb : Below w.heap.size w w') : EvOwn B w' e a b c d := ⟨h.ds.below hb, OwnL.below h.cr hb, OwnL.below h.p hb, OwnL.below h.q hb⟩
theorem EvOwn.shape {B : Nat} {w : World} {e : Evd} {a b c d : Value} (h : EvOwn B w e a b c d) : ∃ A n B' k C i D j, a = .slice A e.ds.length n ∧ b = .slice B' e.cr.length k ∧ c = .slice C e.p.length i ∧ d = .slice D e.q.length j := by
  obtain ⟨A, n, h1⟩ := h.ds.shape
  obtain ⟨B', k, h2, _⟩ := OwnL.shape h.cr
  obtain ⟨C, i, h3, _⟩ := OwnL.shape h.p
  obtain ⟨D, j, h4, _⟩ := OwnL.shape h.q
  exact ⟨A, n, B', k, C, i, D, j, h1, h2, h3, h4⟩
theorem szR_m1 {x : Int} {n : Nat} (h : x < 0) : szR x n = -1 := szR_no (by omega)
def evW (e : Evd) : List Nat := [e.ds.length + Dsc.wts e.ds, e.cr.length, e.p.length + swts e.p, e.q.length + swts e.q]
def evZ (x : Int) (e : Evd) : Int := szR (szR (szR (szR x (e.ds.length + Dsc.wts e.ds)) e.cr.length) (e.p.length + swts e.p)) (e.q.length + swts e.q)
set_option maxRecDepth 20000 in
set_option maxHeartbeats 4000000 in
theorem szEvd (e : Evd) (va vb vc vd : Value) (x : Int) (w : World) (h : EvIn w e va vb vc vd) (hx : 0 ≤ x ∧ x ≤ 1048576) :
    Calls Tryz.prog 8 #[evV va vb vc vd, .int .i64 x] w fun r w' => r = .returned (.int .i64 (evZ x e)) ∧ Below w.heap.size w w' := by
  obtain ⟨A, n, hv, _, _⟩ := h.ds
  obtain ⟨B', k, hv1, _, _⟩ := h.cr
  obtain ⟨⟨C, i, hv2, _, _⟩, _⟩ := h.p
  obtain ⟨⟨D, j, hv3, _, _⟩, _⟩ := h.q
  subst hv hv1 hv2 hv3
  have HB : Below w.heap.size w (w.alloc (.cells #[.slice A e.ds.length n, .slice B' e.cr.length k, .slice C e.p.length i, .slice D e.q.length j] 26)) := (by repeat (first | exact Below.refl _ _ | refine Below.alloc ?_ (by first | omega | (simp; done) | (simp; omega)) _ | apply Below.drew | apply below_drewN | refine Below.setCell ?_ (by first | omega | (simp; done) | (simp; omega)) _ | refine Below.trans ?_ (Below.mono (by assumption) (by first | omega | (simp; done) | (simp; omega)))))
  have HD := Lib.hid (szDscS e.ds (.slice A e.ds.length n) x (w.alloc (.cells #[.slice A e.ds.length n, .slice B' e.cr.length k, .slice C e.p.length i, .slice D e.q.length j] 26)) (h.ds.below HB) hx)
  have HF := Lib.hid (fun (y : Int) (w' : World) (hb : Below w.heap.size w w') (hy : 0 ≤ y ∧ y ≤ 1048576) => szInt64S e.cr (.slice B' e.cr.length k) y w' (h.cr.below hb) hy)
  have HP := Lib.hid (fun (y : Int) (w' : World) (hb : Below w.heap.size w w') (hy : 0 ≤ y ∧ y ≤ 1048576) => szStringS e.p (.slice C e.p.length i) y w' (h.p.1.below hb) h.p.2 hy)
  have HQ := Lib.hid (fun (y : Int) (w' : World) (hb : Below w.heap.size w w') (hy : 0 ≤ y ∧ y ≤ 1048576) => szStringS e.q (.slice D e.q.length j) y w' (h.q.1.below hb) h.q.2 hy)
  clear h
  have h1 : szR x (e.ds.length + Dsc.wts e.ds) ≤ 1048576 := szR_le hx.2
  unfold evZ
  generalize szR x (e.ds.length + Dsc.wts e.ds) = y1 at *
  by_cases n1 : y1 < 0
  · have e1 : szR (szR (szR (y1) e.cr.length) (e.p.length + swts e.p)) (e.q.length + swts e.q) = -1 := by
      rw [szR_m1 n1]
      rw [szR_m1 (show (-1 : Int) < 0 by omega)]
      rw [szR_m1 (show (-1 : Int) < 0 by omega)]
    rw [e1]
    go_enter Tryz.func8, Tryz.ntmps8
    go_wp2_with (fail)
    refine HD.out.mono ?_; rintro r w1 ⟨rfl, hb1⟩
    have B1 : Below w.heap.size w w1 := HB.trans (hb1.mono (by simp))
    go_wp2
    go_ret
    exact ⟨rfl, B1⟩
  · have HFY := Lib.hid (fun (w' : World) (hb : Below w.heap.size w w') => HF.out y1 w' hb ⟨by omega, h1⟩)
    have h2 : szR y1 e.cr.length ≤ 1048576 := szR_le h1
    generalize szR y1 e.cr.length = y2 at *
    by_cases n2 : y2 < 0
    · have e1 : szR (szR (y2) (e.p.length + swts e.p)) (e.q.length + swts e.q) = -1 := by
        rw [szR_m1 n2]
        rw [szR_m1 (show (-1 : Int) < 0 by omega)]
      rw [e1]
      go_enter Tryz.func8, Tryz.ntmps8
      go_wp2_with (fail)
      refine HD.out.mono ?_; rintro r w1 ⟨rfl, hb1⟩
      have B1 : Below w.heap.size w w1 := HB.trans (hb1.mono (by simp))
      have p1 : w1.cell? ⟨w.heap.size, 1, none⟩ = some (.slice B' e.cr.length k) := (hb1.cell (p := ⟨w.heap.size, 1, none⟩) (by simp)).trans (by simp)
      go_wp2_with (fail)
      refine (HFY.out _ B1).mono ?_; rintro r w2 ⟨rfl, rfl⟩
      go_wp2
      go_ret
      exact ⟨rfl, B1⟩
    · have HPY := Lib.hid (fun (w' : World) (hb : Below w.heap.size w w') => HP.out y2 w' hb ⟨by omega, h2⟩)
      have h3 : szR y2 (e.p.length + swts e.p) ≤ 1048576 := szR_le h2
      generalize szR y2 (e.p.length + swts e.p) = y3 at *
      by_cases n3 : y3 < 0
      · have e1 : szR (y3) (e.q.length + swts e.q) = -1 := by
          rw [szR_m1 n3]
        rw [e1]
        go_enter Tryz.func8, Tryz.ntmps8
        go_wp2_with (fail)
        refine HD.out.mono ?_; rintro r w1 ⟨rfl, hb1⟩
        have B1 : Below w.heap.size w w1 := HB.trans (hb1.mono (by simp))
        have p1 : w1.cell? ⟨w.heap.size, 1, none⟩ = some (.slice B' e.cr.length k) := (hb1.cell (p := ⟨w.heap.size, 1, none⟩) (by simp)).trans (by simp)
        have p2 : w1.cell? ⟨w.heap.size, 2, none⟩ = some (.slice C e.p.length i) := (hb1.cell (p := ⟨w.heap.size, 2, none⟩) (by simp)).trans (by simp)
        go_wp2_with (fail)
        refine (HFY.out _ B1).mono ?_; rintro r w2 ⟨rfl, rfl⟩
        go_wp2_with (fail)
        refine (HPY.out _ B1).mono ?_; rintro r w3 ⟨rfl, rfl⟩
        go_wp2
        go_ret
        exact ⟨rfl, B1⟩
      · have HQY := Lib.hid (fun (w' : World) (hb : Below w.heap.size w w') => HQ.out y3 w' hb ⟨by omega, h3⟩)
        have hne : szR y3 (e.q.length + swts e.q) < 0 → szR y3 (e.q.length + swts e.q) = -1 := fun h => szR_no (szR_neg.1 h)
        generalize szR y3 (e.q.length + swts e.q) = y4 at *
        by_cases n4 : y4 < 0
        · rw [hne n4]
          go_enter Tryz.func8, Tryz.ntmps8
          go_wp2_with (fail)
          refine HD.out.mono ?_; rintro r w1 ⟨rfl, hb1⟩
          have B1 : Below w.heap.size w w1 := HB.trans (hb1.mono (by simp))
          have p1 : w1.cell? ⟨w.heap.size, 1, none⟩ = some (.slice B' e.cr.length k) := (hb1.cell (p := ⟨w.heap.size, 1, none⟩) (by simp)).trans (by simp)
          have p2 : w1.cell? ⟨w.heap.size, 2, none⟩ = some (.slice C e.p.length i) := (hb1.cell (p := ⟨w.heap.size, 2, none⟩) (by simp)).trans (by simp)
          have p3 : w1.cell? ⟨w.heap.size, 3, none⟩ = some (.slice D e.q.length j) := (hb1.cell (p := ⟨w.heap.size, 3, none⟩) (by simp)).trans (by simp)
          go_wp2_with (fail)
          refine (HFY.out _ B1).mono ?_; rintro r w2 ⟨rfl, rfl⟩
          go_wp2_with (fail)
          refine (HPY.out _ B1).mono ?_; rintro r w3 ⟨rfl, rfl⟩
          go_wp2_with (fail)
          refine (HQY.out _ B1).mono ?_; rintro r w4 ⟨rfl, rfl⟩
          go_wp2
          go_ret
          exact ⟨rfl, B1⟩
        · skip
          go_enter Tryz.func8, Tryz.ntmps8
          go_wp2_with (fail)
          refine HD.out.mono ?_; rintro r w1 ⟨rfl, hb1⟩
          have B1 : Below w.heap.size w w1 := HB.trans (hb1.mono (by simp))
          have p1 : w1.cell? ⟨w.heap.size, 1, none⟩ = some (.slice B' e.cr.length k) := (hb1.cell (p := ⟨w.heap.size, 1, none⟩) (by simp)).trans (by simp)
          have p2 : w1.cell? ⟨w.heap.size, 2, none⟩ = some (.slice C e.p.length i) := (hb1.cell (p := ⟨w.heap.size, 2, none⟩) (by simp)).trans (by simp)
          have p3 : w1.cell? ⟨w.heap.size, 3, none⟩ = some (.slice D e.q.length j) := (hb1.cell (p := ⟨w.heap.size, 3, none⟩) (by simp)).trans (by simp)
          go_wp2_with (fail)
          refine (HFY.out _ B1).mono ?_; rintro r w2 ⟨rfl, rfl⟩
          go_wp2_with (fail)
          refine (HPY.out _ B1).mono ?_; rintro r w3 ⟨rfl, rfl⟩
          go_wp2_with (fail)
          refine (HQY.out _ B1).mono ?_; rintro r w4 ⟨rfl, rfl⟩
          go_wp2
          go_ret
          exact ⟨rfl, B1⟩
theorem Row.set {w : World} {b : Nat} {us : List Value} (h : Row w b us) {o : Nat} (v : Value) (ho : o < us.length) : Row (w.setCell ⟨b, o, none⟩ v) b (us.set o v) := by
  intro j u hu
  by_cases hj : o = j
  · subst hj
    rw [List.getElem?_set_self ho] at hu
    injection hu with hu
    subst hu
    exact World.cell?_setCell_same _ _ _ (h o _ (List.getElem?_eq_getElem ho))
  · rw [List.getElem?_set_ne hj] at hu
    exact (World.cell?_setCell_other w _ _ v (ne_off hj)).trans (h j u hu)
theorem Row.set_other {w : World} {b g : Nat} {us : List Value} (h : Row w b us) {o : Nat} (v : Value) (hg : b ≠ g) : Row (w.setCell ⟨g, o, none⟩ v) b us := fun j u hu => (World.cell?_setCell_other w _ _ v (fun e => by injection e with e1; exact hg e1.symm)).trans (h j u hu)
theorem setCell_frozen (w : World) (p q : Addr) (u : Value) : (w.setCell p u).frozen? q = w.frozen? q := by simp [go_sem]
theorem setCell_size (w : World) (p : Addr) (u : Value) : (w.setCell p u).heap.size = w.heap.size := by simp [go_sem]
theorem frozen_below {w w' : World} {b : Nat} {v : Bool} (h : ∀ o, w.frozen? ⟨b, o, none⟩ = v) (hb : Below w.heap.size w w') (hl : b < w.heap.size) : ∀ o, w'.frozen? ⟨b, o, none⟩ = v := fun o => (hb.frozen (p := ⟨b, o, none⟩) hl).trans (h o)
set_option maxRecDepth 20000 in
set_option maxHeartbeats 4000000 in
theorem toEvd (e : Evd) (va vb vc vd : Value) (w : World) (h : EvIn w e va vb vc vd) (h1 : e.ds.length ≤ 1048576) (h1' : ∀ d ∈ e.ds, d.secs.length ≤ 1048576) (h2 : e.cr.length ≤ 1048576) (h3 : e.p.length ≤ 1048576) (h4 : e.q.length ≤ 1048576) :
    Calls Tryz.prog 12 #[evV va vb vc vd] w fun r w' => ∃ a b c d, r = .returned (evV a b c d) ∧ EvOwn w.heap.size w' e a b c d ∧ Below w.heap.size w w' := by
  have HH := Lib.hid h
  obtain ⟨A, n, hv, _, _⟩ := h.ds
  obtain ⟨B', k, hv1, _, _⟩ := h.cr
  obtain ⟨⟨C, i, hv2, _, _⟩, _⟩ := h.p
  obtain ⟨⟨D, j, hv3, _, _⟩, _⟩ := h.q
  subst hv hv1 hv2 hv3
  have HB : Below w.heap.size w (((w.alloc (.cells #[.slice A e.ds.length n, .slice B' e.cr.length k, .slice C e.p.length i, .slice D e.q.length j] 26)).alloc (.cells #[.slice none 0 0, .slice none 0 0, .slice none 0 0, .slice none 0 0] 39)).alloc (.cells #[.slice none 0 0, .slice none 0 0, .slice none 0 0, .slice none 0 0] 39)) := (by repeat (first | exact Below.refl _ _ | refine Below.alloc ?_ (by first | omega | (simp; done) | (simp; omega)) _ | apply Below.drew | apply below_drewN | refine Below.setCell ?_ (by first | omega | (simp; done) | (simp; omega)) _ | refine Below.trans ?_ (Below.mono (by assumption) (by first | omega | (simp; done) | (simp; omega)))))
  have T0 := Lib.hid (toDscS e.ds (.slice A e.ds.length n) (((w.alloc (.cells #[.slice A e.ds.length n, .slice B' e.cr.length k, .slice C e.p.length i, .slice D e.q.length j] 26)).alloc (.cells #[.slice none 0 0, .slice none 0 0, .slice none 0 0, .slice none 0 0] 39)).alloc (.cells #[.slice none 0 0, .slice none 0 0, .slice none 0 0, .slice none 0 0] 39)) (HH.out.below HB).ds h1 h1')
  have T1 := Lib.hid (fun (w' : World) (hb : Below w.heap.size w w') => toInt64S e.cr (.slice B' e.cr.length k) w' (HH.out.below hb).cr h2)
  have T2 := Lib.hid (fun (w' : World) (hb : Below w.heap.size w w') => toStringS e.p (.slice C e.p.length i) w' (HH.out.below hb).p.1 h3)
  have T3 := Lib.hid (fun (w' : World) (hb : Below w.heap.size w w') => toStringS e.q (.slice D e.q.length j) w' (HH.out.below hb).q.1 h4)
  have S3 : ((((w.alloc (.cells #[.slice A e.ds.length n, .slice B' e.cr.length k, .slice C e.p.length i, .slice D e.q.length j] 26)).alloc (.cells #[.slice none 0 0, .slice none 0 0, .slice none 0 0, .slice none 0 0] 39)).alloc (.cells #[.slice none 0 0, .slice none 0 0, .slice none 0 0, .slice none 0 0] 39))).heap.size = w.heap.size + 3 := by simp
  have R0 : Row (((w.alloc (.cells #[.slice A e.ds.length n, .slice B' e.cr.length k, .slice C e.p.length i, .slice D e.q.length j] 26)).alloc (.cells #[.slice none 0 0, .slice none 0 0, .slice none 0 0, .slice none 0 0] 39)).alloc (.cells #[.slice none 0 0, .slice none 0 0, .slice none 0 0, .slice none 0 0] 39)) (w.heap.size + 1 + 1) [.slice none 0 0, .slice none 0 0, .slice none 0 0, .slice none 0 0] := by
    have := Row.alloc ((w.alloc (.cells #[.slice A e.ds.length n, .slice B' e.cr.length k, .slice C e.p.length i, .slice D e.q.length j] 26)).alloc (.cells #[.slice none 0 0, .slice none 0 0, .slice none 0 0, .slice none 0 0] 39)) #[.slice none 0 0, .slice none 0 0, .slice none 0 0, .slice none 0 0] 39
    simpa using this
  have Z0 : Row (((w.alloc (.cells #[.slice A e.ds.length n, .slice B' e.cr.length k, .slice C e.p.length i, .slice D e.q.length j] 26)).alloc (.cells #[.slice none 0 0, .slice none 0 0, .slice none 0 0, .slice none 0 0] 39)).alloc (.cells #[.slice none 0 0, .slice none 0 0, .slice none 0 0, .slice none 0 0] 39)) (w.heap.size + 1) [.slice none 0 0, .slice none 0 0, .slice none 0 0, .slice none 0 0] := by
    have := (Row.alloc (w.alloc (.cells #[.slice A e.ds.length n, .slice B' e.cr.length k, .slice C e.p.length i, .slice D e.q.length j] 26)) #[.slice none 0 0, .slice none 0 0, .slice none 0 0, .slice none 0 0] 39).below (Below.alloc (Below.refl _ _) (Nat.le_refl _) (.cells #[.slice none 0 0, .slice none 0 0, .slice none 0 0, .slice none 0 0] 39)) (by simp)
    simpa using this
  have Y0 : Row (((w.alloc (.cells #[.slice A e.ds.length n, .slice B' e.cr.length k, .slice C e.p.length i, .slice D e.q.length j] 26)).alloc (.cells #[.slice none 0 0, .slice none 0 0, .slice none 0 0, .slice none 0 0] 39)).alloc (.cells #[.slice none 0 0, .slice none 0 0, .slice none 0 0, .slice none 0 0] 39)) w.heap.size [.slice A e.ds.length n, .slice B' e.cr.length k, .slice C e.p.length i, .slice D e.q.length j] := (Row.alloc w #[.slice A e.ds.length n, .slice B' e.cr.length k, .slice C e.p.length i, .slice D e.q.length j] 26).below (Below.alloc (Below.alloc (Below.refl _ _) (Nat.le_refl _) (.cells #[.slice none 0 0, .slice none 0 0, .slice none 0 0, .slice none 0 0] 39)) (by simp) (.cells #[.slice none 0 0, .slice none 0 0, .slice none 0 0, .slice none 0 0] 39)) (by simp)
  have F0 : ∀ o, ((((w.alloc (.cells #[.slice A e.ds.length n, .slice B' e.cr.length k, .slice C e.p.length i, .slice D e.q.length j] 26)).alloc (.cells #[.slice none 0 0, .slice none 0 0, .slice none 0 0, .slice none 0 0] 39)).alloc (.cells #[.slice none 0 0, .slice none 0 0, .slice none 0 0, .slice none 0 0] 39))).frozen? ⟨w.heap.size + 1, o, none⟩ = false := by intro o; simp [go_sem]
  have G0 : ∀ o, ((((w.alloc (.cells #[.slice A e.ds.length n, .slice B' e.cr.length k, .slice C e.p.length i, .slice D e.q.length j] 26)).alloc (.cells #[.slice none 0 0, .slice none 0 0, .slice none 0 0, .slice none 0 0] 39)).alloc (.cells #[.slice none 0 0, .slice none 0 0, .slice none 0 0, .slice none 0 0] 39))).frozen? ⟨w.heap.size + 1 + 1, o, none⟩ = false := by intro o; simp [go_sem]
  clear h
  go_enter Tryz.func12, Tryz.ntmps12
  go_wp2_with (fail)
  refine T0.out.mono ?_; rintro r w1 ⟨v0, rfl, o0, hb⟩
  have z : w.heap.size + 3 ≤ w1.heap.size := by have := hb.size; omega
  have Bn : Below w.heap.size w w1 := HB.trans (hb.mono (by omega))
  replace o0 : DscOwn (w.heap.size + 3) w1 v0 e.ds := DscOwn.base o0 (by omega)
  have R0a := R0.below hb (by omega)
  have Z0a := Z0.below hb (by omega)
  have Y0a := Y0.below hb (by omega)
  have F0a := frozen_below F0 hb (by omega)
  have G0a := frozen_below G0 hb (by omega)
  clear R0 Z0 Y0 F0 G0 hb
  obtain ⟨A0, n0, rfl⟩ := o0.shape
  clear T0 HB S3
  have yc := Y0a 1 _ rfl
  have rc := R0a 0 _ rfl
  have fc := G0a 0
  go_wp2_with (fail)
  clear yc rc fc
  have B1 : Below w.heap.size w (w1.setCell ⟨w.heap.size + 1 + 1, 0, none⟩ (.slice A0 e.ds.length n0)) := Below.setCell Bn (by show w.heap.size ≤ w.heap.size + 1 + 1; omega) _
  have z1 : w.heap.size + 3 ≤ ((w1.setCell ⟨w.heap.size + 1 + 1, 0, none⟩ (.slice A0 e.ds.length n0))).heap.size := by rw [setCell_size]; exact z
  replace o0 := DscOwn.far (g := w.heap.size + 1 + 1) (o := 0) (u := .slice A0 e.ds.length n0) o0 (by omega)
  have R1 := R0a.set (o := 0) (.slice A0 e.ds.length n0) (by simp)
  have Z1 := Z0a.set_other (g := w.heap.size + 1 + 1) (o := 0) (.slice A0 e.ds.length n0) (by omega)
  have Y1 := Y0a.set_other (g := w.heap.size + 1 + 1) (o := 0) (.slice A0 e.ds.length n0) (by omega)
  have F1 := fun o => (setCell_frozen w1 ⟨w.heap.size + 1 + 1, 0, none⟩ ⟨w.heap.size + 1, o, none⟩ (.slice A0 e.ds.length n0)).trans (F0a o)
  have G1 := fun o => (setCell_frozen w1 ⟨w.heap.size + 1 + 1, 0, none⟩ ⟨w.heap.size + 1 + 1, o, none⟩ (.slice A0 e.ds.length n0)).trans (G0a o)
  clear R0a Z0a Y0a F0a G0a Bn z
  generalize (w1.setCell ⟨w.heap.size + 1 + 1, 0, none⟩ (.slice A0 e.ds.length n0)) = w2 at *
  refine (T1.out w2 B1).mono ?_; rintro r w3 ⟨v1, rfl, o1, hb⟩
  have z : w.heap.size + 3 ≤ w3.heap.size := Nat.le_trans z1 hb.size
  have Bn : Below w.heap.size w w3 := B1.trans (hb.mono (by omega))
  replace o1 : OwnL _ _ _ (w.heap.size + 3) w3 v1 e.cr := OwnL.base o1 z1
  replace o0 := DscOwn.below o0 hb
  have R1a := R1.below hb (by omega)
  have Z1a := Z1.below hb (by omega)
  have Y1a := Y1.below hb (by omega)
  have F1a := frozen_below F1 hb (by omega)
  have G1a := frozen_below G1 hb (by omega)
  clear R1 Z1 Y1 F1 G1 hb
  obtain ⟨A1, n1, rfl, _⟩ := OwnL.shape o1
  have yc := Y1a 2 _ rfl
  have rc := R1a 1 _ rfl
  have fc := G1a 1
  go_wp2_with (fail)
  clear yc rc fc
  have B2 : Below w.heap.size w (w3.setCell ⟨w.heap.size + 1 + 1, 1, none⟩ (.slice A1 e.cr.length n1)) := Below.setCell Bn (by show w.heap.size ≤ w.heap.size + 1 + 1; omega) _
  have z2 : w.heap.size + 3 ≤ ((w3.setCell ⟨w.heap.size + 1 + 1, 1, none⟩ (.slice A1 e.cr.length n1))).heap.size := by rw [setCell_size]; exact z
  replace o0 := DscOwn.far (g := w.heap.size + 1 + 1) (o := 1) (u := .slice A1 e.cr.length n1) o0 (by omega)
  replace o1 := far_set (g := w.heap.size + 1 + 1) (o := 1) (u := .slice A1 e.cr.length n1) o1 (by omega)
  have R2 := R1a.set (o := 1) (.slice A1 e.cr.length n1) (by simp)
  have Z2 := Z1a.set_other (g := w.heap.size + 1 + 1) (o := 1) (.slice A1 e.cr.length n1) (by omega)
  have Y2 := Y1a.set_other (g := w.heap.size + 1 + 1) (o := 1) (.slice A1 e.cr.length n1) (by omega)
  have F2 := fun o => (setCell_frozen w3 ⟨w.heap.size + 1 + 1, 1, none⟩ ⟨w.heap.size + 1, o, none⟩ (.slice A1 e.cr.length n1)).trans (F1a o)
  have G2 := fun o => (setCell_frozen w3 ⟨w.heap.size + 1 + 1, 1, none⟩ ⟨w.heap.size + 1 + 1, o, none⟩ (.slice A1 e.cr.length n1)).trans (G1a o)
  clear R1a Z1a Y1a F1a G1a Bn z
  generalize (w3.setCell ⟨w.heap.size + 1 + 1, 1, none⟩ (.slice A1 e.cr.length n1)) = w4 at *
  refine (T2.out w4 B2).mono ?_; rintro r w5 ⟨v2, rfl, o2, hb⟩
  have z : w.heap.size + 3 ≤ w5.heap.size := Nat.le_trans z2 hb.size
  have Bn : Below w.heap.size w w5 := B2.trans (hb.mono (by omega))
  replace o2 : OwnL _ _ _ (w.heap.size + 3) w5 v2 e.p := OwnL.base o2 z2
  replace o0 := DscOwn.below o0 hb
  replace o1 := OwnL.below o1 hb
  have R2a := R2.below hb (by omega)
  have Z2a := Z2.below hb (by omega)
  have Y2a := Y2.below hb (by omega)
  have F2a := frozen_below F2 hb (by omega)
  have G2a := frozen_below G2 hb (by omega)
  clear R2 Z2 Y2 F2 G2 hb
  obtain ⟨A2, n2, rfl, _⟩ := OwnL.shape o2
  have yc := Y2a 3 _ rfl
  have rc := R2a 2 _ rfl
  have fc := G2a 2
  go_wp2_with (fail)
  clear yc rc fc
  have B3 : Below w.heap.size w (w5.setCell ⟨w.heap.size + 1 + 1, 2, none⟩ (.slice A2 e.p.length n2)) := Below.setCell Bn (by show w.heap.size ≤ w.heap.size + 1 + 1; omega) _
  have z3 : w.heap.size + 3 ≤ ((w5.setCell ⟨w.heap.size + 1 + 1, 2, none⟩ (.slice A2 e.p.length n2))).heap.size := by rw [setCell_size]; exact z
  replace o0 := DscOwn.far (g := w.heap.size + 1 + 1) (o := 2) (u := .slice A2 e.p.length n2) o0 (by omega)
  replace o1 := far_set (g := w.heap.size + 1 + 1) (o := 2) (u := .slice A2 e.p.length n2) o1 (by omega)
  replace o2 := far_set (g := w.heap.size + 1 + 1) (o := 2) (u := .slice A2 e.p.length n2) o2 (by omega)
  have R3 := R2a.set (o := 2) (.slice A2 e.p.length n2) (by simp)
  have Z3 := Z2a.set_other (g := w.heap.size + 1 + 1) (o := 2) (.slice A2 e.p.length n2) (by omega)
  have Y3 := Y2a.set_other (g := w.heap.size + 1 + 1) (o := 2) (.slice A2 e.p.length n2) (by omega)
  have F3 := fun o => (setCell_frozen w5 ⟨w.heap.size + 1 + 1, 2, none⟩ ⟨w.heap.size + 1, o, none⟩ (.slice A2 e.p.length n2)).trans (F2a o)
  have G3 := fun o => (setCell_frozen w5 ⟨w.heap.size + 1 + 1, 2, none⟩ ⟨w.heap.size + 1 + 1, o, none⟩ (.slice A2 e.p.length n2)).trans (G2a o)
  clear R2a Z2a Y2a F2a G2a Bn z
  generalize (w5.setCell ⟨w.heap.size + 1 + 1, 2, none⟩ (.slice A2 e.p.length n2)) = w6 at *
  refine (T3.out w6 B3).mono ?_; rintro r w7 ⟨v3, rfl, o3, hb⟩
  have z : w.heap.size + 3 ≤ w7.heap.size := Nat.le_trans z3 hb.size
  have Bn : Below w.heap.size w w7 := B3.trans (hb.mono (by omega))
  replace o3 : OwnL _ _ _ (w.heap.size + 3) w7 v3 e.q := OwnL.base o3 z3
  replace o0 := DscOwn.below o0 hb
  replace o1 := OwnL.below o1 hb
  replace o2 := OwnL.below o2 hb
  have R3a := R3.below hb (by omega)
  have Z3a := Z3.below hb (by omega)
  have Y3a := Y3.below hb (by omega)
  have F3a := frozen_below F3 hb (by omega)
  have G3a := frozen_below G3 hb (by omega)
  clear R3 Z3 Y3 F3 G3 hb
  obtain ⟨A3, n3, rfl, _⟩ := OwnL.shape o3
  have k0 := R3a 0 _ rfl
  have y0 := Z3a 0 _ rfl
  have k1 := R3a 1 _ rfl
  have y1 := Z3a 1 _ rfl
  have k2 := R3a 2 _ rfl
  have y2 := Z3a 2 _ rfl
  have k3 := R3a 3 _ rfl
  have y3 := Z3a 3 _ rfl
  have fa := F3a
  have ga := G3a
  go_wp2
  have B4 : Below w.heap.size w (w7.setCell ⟨w.heap.size + 1 + 1, 3, none⟩ (.slice A3 e.q.length n3)) := Below.setCell Bn (by show w.heap.size ≤ w.heap.size + 1 + 1; omega) _
  replace o0 := DscOwn.far (g := w.heap.size + 1 + 1) (o := 3) (u := .slice A3 e.q.length n3) o0 (by omega)
  replace o1 := far_set (g := w.heap.size + 1 + 1) (o := 3) (u := .slice A3 e.q.length n3) o1 (by omega)
  replace o2 := far_set (g := w.heap.size + 1 + 1) (o := 3) (u := .slice A3 e.q.length n3) o2 (by omega)
  replace o3 := far_set (g := w.heap.size + 1 + 1) (o := 3) (u := .slice A3 e.q.length n3) o3 (by omega)
  have Z4 := Z3a.set_other (g := w.heap.size + 1 + 1) (o := 3) (.slice A3 e.q.length n3) (by omega)
  clear k0 k1 k2 k3 y0 y1 y2 y3 fa ga R3a Z3a Y3a F3a G3a Bn
  generalize (w7.setCell ⟨w.heap.size + 1 + 1, 3, none⟩ (.slice A3 e.q.length n3)) = W at *
  replace B4 := Below.setCell B4 (p := ⟨w.heap.size + 1, 0, none⟩) (by show w.heap.size ≤ w.heap.size + 1; omega) (.slice A0 e.ds.length n0)
  replace o0 := DscOwn.far (g := w.heap.size + 1) (o := 0) (u := .slice A0 e.ds.length n0) o0 (by omega)
  replace o1 := far_set (g := w.heap.size + 1) (o := 0) (u := .slice A0 e.ds.length n0) o1 (by omega)
  replace o2 := far_set (g := w.heap.size + 1) (o := 0) (u := .slice A0 e.ds.length n0) o2 (by omega)
  replace o3 := far_set (g := w.heap.size + 1) (o := 0) (u := .slice A0 e.ds.length n0) o3 (by omega)
  replace Z4 := Z4.set (o := 0) (.slice A0 e.ds.length n0) (by simp)
  replace B4 := Below.setCell B4 (p := ⟨w.heap.size + 1, 1, none⟩) (by show w.heap.size ≤ w.heap.size + 1; omega) (.slice A1 e.cr.length n1)
  replace o0 := DscOwn.far (g := w.heap.size + 1) (o := 1) (u := .slice A1 e.cr.length n1) o0 (by omega)
  replace o1 := far_set (g := w.heap.size + 1) (o := 1) (u := .slice A1 e.cr.length n1) o1 (by omega)
  replace o2 := far_set (g := w.heap.size + 1) (o := 1) (u := .slice A1 e.cr.length n1) o2 (by omega)
  replace o3 := far_set (g := w.heap.size + 1) (o := 1) (u := .slice A1 e.cr.length n1) o3 (by omega)
  replace Z4 := Z4.set (o := 1) (.slice A1 e.cr.length n1) (by simp)
  replace B4 := Below.setCell B4 (p := ⟨w.heap.size + 1, 2, none⟩) (by show w.heap.size ≤ w.heap.size + 1; omega) (.slice A2 e.p.length n2)
  replace o0 := DscOwn.far (g := w.heap.size + 1) (o := 2) (u := .slice A2 e.p.length n2) o0 (by omega)
  replace o1 := far_set (g := w.heap.size + 1) (o := 2) (u := .slice A2 e.p.length n2) o1 (by omega)
  replace o2 := far_set (g := w.heap.size + 1) (o := 2) (u := .slice A2 e.p.length n2) o2 (by omega)
  replace o3 := far_set (g := w.heap.size + 1) (o := 2) (u := .slice A2 e.p.length n2) o3 (by omega)
  replace Z4 := Z4.set (o := 2) (.slice A2 e.p.length n2) (by simp)
  replace B4 := Below.setCell B4 (p := ⟨w.heap.size + 1, 3, none⟩) (by show w.heap.size ≤ w.heap.size + 1; omega) (.slice A3 e.q.length n3)
  replace o0 := DscOwn.far (g := w.heap.size + 1) (o := 3) (u := .slice A3 e.q.length n3) o0 (by omega)
  replace o1 := far_set (g := w.heap.size + 1) (o := 3) (u := .slice A3 e.q.length n3) o1 (by omega)
  replace o2 := far_set (g := w.heap.size + 1) (o := 3) (u := .slice A3 e.q.length n3) o2 (by omega)
  replace o3 := far_set (g := w.heap.size + 1) (o := 3) (u := .slice A3 e.q.length n3) o3 (by omega)
  replace Z4 := Z4.set (o := 3) (.slice A3 e.q.length n3) (by simp)
  have s0 := Z4 0 _ rfl
  have s1 := Z4 1 _ rfl
  have s2 := Z4 2 _ rfl
  have s3 := Z4 3 _ rfl
  refine bodyPost_ret (v := evV (.slice A0 e.ds.length n0) (.slice A1 e.cr.length n1) (.slice A2 e.p.length n2) (.slice A3 e.q.length n3)) (by simp [results, Tryz.results12, go_sem, s0, s1, s2, s3]; try done) rfl ⟨_, _, _, _, rfl, ⟨DscOwn.base o0 (by omega), OwnL.base o1 (by omega), OwnL.base o2 (by omega), OwnL.base o3 (by omega)⟩, B4⟩
set_option maxRecDepth 20000 in
set_option maxHeartbeats 4000000 in
theorem eqEvd (e : Evd) (Ba Bb : Nat) (w : World) {va vb vc vd ua ub uc ud : Value} (h : EvOwn Ba w e va vb vc vd) (h' : EvOwn Bb w e ua ub uc ud) (h1 : e.ds.length ≤ 8388608) (h1' : ∀ d ∈ e.ds, d.secs.length ≤ 8388608) (h2 : e.cr.length ≤ 8388608) (h3 : e.p.length ≤ 8388608) (h4 : e.q.length ≤ 8388608) :
    Calls Tryz.prog 16 #[evV va vb vc vd, evV ua ub uc ud] w fun r w' => r = .returned (.bool true) ∧ Below w.heap.size w w' := by
  have H1 := Lib.hid h
  have H2 := Lib.hid h'
  obtain ⟨A, n, B', k, C, i, D, j, rfl, rfl, rfl, rfl⟩ := h.shape
  obtain ⟨A2, n2, B2, k2, C2, i2, D2, j2, rfl, rfl, rfl, rfl⟩ := h'.shape
  have HB : Below w.heap.size w ((w.alloc (.cells #[.slice A e.ds.length n, .slice B' e.cr.length k, .slice C e.p.length i, .slice D e.q.length j] 39)).alloc (.cells #[.slice A2 e.ds.length n2, .slice B2 e.cr.length k2, .slice C2 e.p.length i2, .slice D2 e.q.length j2] 39)) := (by repeat (first | exact Below.refl _ _ | refine Below.alloc ?_ (by first | omega | (simp; done) | (simp; omega)) _ | apply Below.drew | apply below_drewN | refine Below.setCell ?_ (by first | omega | (simp; done) | (simp; omega)) _ | refine Below.trans ?_ (Below.mono (by assumption) (by first | omega | (simp; done) | (simp; omega)))))
  have E0 := Lib.hid (eqDscS e.ds _ _ Ba Bb ((w.alloc (.cells #[.slice A e.ds.length n, .slice B' e.cr.length k, .slice C e.p.length i, .slice D e.q.length j] 39)).alloc (.cells #[.slice A2 e.ds.length n2, .slice B2 e.cr.length k2, .slice C2 e.p.length i2, .slice D2 e.q.length j2] 39)) (H1.out.below HB).ds (H2.out.below HB).ds h1 h1')
  have E1 := Lib.hid (fun (w' : World) (hb : Below w.heap.size w w') => eqInt64S e.cr _ _ Ba Bb w' (H1.out.below hb).cr (H2.out.below hb).cr h2)
  have E2 := Lib.hid (fun (w' : World) (hb : Below w.heap.size w w') => eqStringS e.p _ _ Ba Bb w' (H1.out.below hb).p (H2.out.below hb).p h3)
  have E3 := Lib.hid (fun (w' : World) (hb : Below w.heap.size w w') => eqStringS e.q _ _ Ba Bb w' (H1.out.below hb).q (H2.out.below hb).q h4)
  clear h h'
  have R0 : Row ((w.alloc (.cells #[.slice A e.ds.length n, .slice B' e.cr.length k, .slice C e.p.length i, .slice D e.q.length j] 39)).alloc (.cells #[.slice A2 e.ds.length n2, .slice B2 e.cr.length k2, .slice C2 e.p.length i2, .slice D2 e.q.length j2] 39)) (w.heap.size + 1) [.slice A2 e.ds.length n2, .slice B2 e.cr.length k2, .slice C2 e.p.length i2, .slice D2 e.q.length j2] := by
    have := Row.alloc (w.alloc (.cells #[.slice A e.ds.length n, .slice B' e.cr.length k, .slice C e.p.length i, .slice D e.q.length j] 39)) #[.slice A2 e.ds.length n2, .slice B2 e.cr.length k2, .slice C2 e.p.length i2, .slice D2 e.q.length j2] 39
    simpa using this
  have Y0 : Row ((w.alloc (.cells #[.slice A e.ds.length n, .slice B' e.cr.length k, .slice C e.p.length i, .slice D e.q.length j] 39)).alloc (.cells #[.slice A2 e.ds.length n2, .slice B2 e.cr.length k2, .slice C2 e.p.length i2, .slice D2 e.q.length j2] 39)) w.heap.size [.slice A e.ds.length n, .slice B' e.cr.length k, .slice C e.p.length i, .slice D e.q.length j] := (Row.alloc w #[.slice A e.ds.length n, .slice B' e.cr.length k, .slice C e.p.length i, .slice D e.q.length j] 39).below (Below.alloc (Below.refl _ _) (Nat.le_refl _) _) (by simp)
  have S2 : (((w.alloc (.cells #[.slice A e.ds.length n, .slice B' e.cr.length k, .slice C e.p.length i, .slice D e.q.length j] 39)).alloc (.cells #[.slice A2 e.ds.length n2, .slice B2 e.cr.length k2, .slice C2 e.p.length i2, .slice D2 e.q.length j2] 39))).heap.size = w.heap.size + 2 := by simp
  go_enter Tryz.func16, Tryz.ntmps16
  go_wp2_with (fail)
  refine E0.out.mono ?_; rintro r w1 ⟨rfl, hb⟩
  have B1 : Below w.heap.size w w1 := HB.trans (hb.mono (by omega))
  have R1 := R0.below hb (by omega)
  have Y1 := Y0.below hb (by omega)
  clear R0 Y0 hb HB S2
  have r1 := R1 1 _ rfl
  have y1 := Y1 1 _ rfl
  go_wp2_with (fail)
  refine (E1.out w1 B1).mono ?_; rintro r w2 ⟨rfl, hq⟩
  have B2 : Below w.heap.size w w2 := B1.trans (hq.below _)
  have R2 : Row w2 (w.heap.size + 1) _ := fun j u hu => (hq.cell _).trans (R1 j u hu)
  have Y2 : Row w2 w.heap.size _ := fun j u hu => (hq.cell _).trans (Y1 j u hu)
  clear r1 y1 R1 Y1 hq B1
  have r2 := R2 2 _ rfl
  have y2 := Y2 2 _ rfl
  go_wp2_with (fail)
  refine (E2.out w2 B2).mono ?_; rintro r w3 ⟨rfl, hq⟩
  have B3 : Below w.heap.size w w3 := B2.trans (hq.below _)
  have R3 : Row w3 (w.heap.size + 1) _ := fun j u hu => (hq.cell _).trans (R2 j u hu)
  have Y3 : Row w3 w.heap.size _ := fun j u hu => (hq.cell _).trans (Y2 j u hu)
  clear r2 y2 R2 Y2 hq B2
  have r3 := R3 3 _ rfl
  have y3 := Y3 3 _ rfl
  go_wp2_with (fail)
  refine (E3.out w3 B3).mono ?_; rintro r w4 ⟨rfl, hq⟩
  have B4 : Below w.heap.size w w4 := B3.trans (hq.below _)
  clear r3 y3 R3 Y3 hq B3
  go_wp2
  go_ret
  exact ⟨rfl, B4⟩
end Go.Proofs.YtfcdienphillnaaGreat
