/- The laws' own helpers over a certificate. -/
import Derived.Test.YtiignbomjjfckaaDoorHSource
namespace Go.Proofs.YtiignbomjjfckaaDoor
set_option linter.unusedVariables false
set_option linter.unusedSimpArgs false
open Go.RowKit

theorem Chg.set {B E : Nat} {w w' : World} (h : Chg B E w w') {g o : Nat} {u : Value} (hg : B ≤ g ∧ g < E) : Chg B E w (w'.setCell ⟨g, o, none⟩ u) :=
  ⟨h.os, h.tape, h.output, by simpa using h.size, fun i hi hne => (Below.heap_setCell _ _ _ i (by rintro rfl; exact hne hg)).trans (h.block i hi hne)⟩
theorem own_src {B E B' E' : Nat} {w : World} {v : Value} {l : List Src} (h : RSourceS.own B E w v l) (hB : B' ≤ B) (hE : E ≤ E') : RSourceS.own B' E' w v l := ⟨h.1.base hB, fun g hg => Nat.lt_of_lt_of_le (h.2 g hg) hE⟩
set_option maxHeartbeats 1000000 in
theorem szCert (l : List Src) (v : Value) (x0 : Int) (w : World) (h : RSourceS.raw w v l) (hx : 0 ≤ x0 ∧ x0 ≤ 1048576) :
    Calls Tryd.prog 5 #[.agg #[v], .int .i64 x0] w fun e w' => e = .returned (.int .i64 (szR x0 (RSourceS.wt l))) ∧ Below w.heap.size w w' := by
  have hs := r_szSourceS l v x0 _ (RSourceS.rawk h (Below.alloc (Below.refl _ _) (Nat.le_refl _) (.cells #[v] 24))) hx
  have hne : szR x0 (RSourceS.wt l) < 0 → szR x0 (RSourceS.wt l) = -1 := fun h => szR_no (szR_neg.1 h)
  generalize szR x0 (RSourceS.wt l) = r at *
  obtain ⟨⟨A, c, rfl, _⟩, _⟩ := h
  go_enter Tryd.func5, Tryd.ntmps5
  go_wp2_with (go_at_call 14; refine hs.mono ?_; rintro e w1 ⟨rfl, hb1⟩)
  · go_ret
    exact ⟨ret_int (hne (by assumption)).symm, (by repeat (first | exact Below.refl _ _ | refine Below.alloc ?_ (by first | omega | (simp; done) | (simp; omega)) _ | apply Below.drew | apply below_drewN | refine Below.setCell ?_ (by first | omega | (simp; done) | (simp; omega)) _ | refine Below.trans ?_ (Below.mono (by assumption) (by first | omega | (simp; done) | (simp; omega)))))⟩
  · go_ret
    exact ⟨rfl, (by repeat (first | exact Below.refl _ _ | refine Below.alloc ?_ (by first | omega | (simp; done) | (simp; omega)) _ | apply Below.drew | apply below_drewN | refine Below.setCell ?_ (by first | omega | (simp; done) | (simp; omega)) _ | refine Below.trans ?_ (Below.mono (by assumption) (by first | omega | (simp; done) | (simp; omega)))))⟩
set_option maxHeartbeats 1000000 in
theorem toCert (l : List Src) (v : Value) (w : World) (h : RSourceS.raw w v l) (hn : RSourceS.wt l ≤ 1048576) :
    Calls Tryd.prog 7 #[.agg #[v]] w fun e w' => ∃ v', e = .returned (.agg #[v']) ∧ RSourceS.own w.heap.size w'.heap.size w' v' l ∧ Below w.heap.size w w' := by
  have HH := Lib.hid h
  obtain ⟨⟨A, c, rfl, _⟩, _⟩ := h
  go_enter Tryd.func7, Tryd.ntmps7
  go_wp2_with (fail)
  refine (r_toSourceS l _ _ (RSourceS.rawk HH.out (by repeat (first | exact Below.refl _ _ | refine Below.alloc ?_ (by first | omega | (simp; done) | (simp; omega)) _ | apply Below.drew | apply below_drewN | refine Below.setCell ?_ (by first | omega | (simp; done) | (simp; omega)) _ | refine Below.trans ?_ (Below.mono (by assumption) (by first | omega | (simp; done) | (simp; omega)))))) hn).mono ?_; rintro e w1 ⟨v1, rfl, o1, hb1⟩
  obtain ⟨hc1, hf1⟩ := bcell hb1
  have hz1 : w.heap.size + 3 ≤ w1.heap.size := by have := hb1.size; (try simp at this); omega
  have o2 : RSourceS.own (w.heap.size + 3) w1.heap.size w1 v1 l := by simpa using o1
  clear o1
  obtain ⟨A1, c1, rfl, _⟩ := o2.1.shape
  go_wp2
  have q0 : w1.cell? ⟨w.heap.size + 1, 0, none⟩ = some (.slice none 0 0) := by rw [hc1 (w.heap.size + 1) 0 (by simp)]; simp [go_sem]
  have q1 : (w1.setCell ⟨w.heap.size + 1 + 1, 0, none⟩ (.slice A1 l.length c1)).cell? ⟨w.heap.size + 1, 0, none⟩ = some (.slice none 0 0) := by rw [World.cell?_setCell_other _ _ _ _ (by intro e; injection e with e _ _; omega)]; exact q0
  have q2 := World.cell?_setCell_same _ _ (.slice A1 l.length c1) q1
  refine bodyPost_ret (v := .agg #[.slice A1 l.length c1]) (by simp [results, Tryd.results7, go_sem, q2]; try done) rfl ⟨_, rfl, ?_, ?_⟩
  · exact own_src (RSourceS.chg o2 ((Chg.of_below (B := w.heap.size) (E := w.heap.size + 3) (Below.refl _ _)).set ⟨by omega, by omega⟩ |>.set ⟨by omega, by omega⟩) (.inr (by omega))) (by omega) (by simp)
  · exact (by repeat (first | exact Below.refl _ _ | refine Below.alloc ?_ (by first | omega | (simp; done) | (simp; omega)) _ | apply Below.drew | apply below_drewN | refine Below.setCell ?_ (by first | omega | (simp; done) | (simp; omega)) _ | refine Below.trans ?_ (Below.mono (by assumption) (by first | omega | (simp; done) | (simp; omega)))))
set_option maxHeartbeats 1000000 in
theorem eqCert (l : List Src) (va vb : Value) (B E B' E' : Nat) (w : World) (ha : RSourceS.own B E w va l) (hb : RSourceS.own B' E' w vb l) (hn : RSourceS.cnt l ≤ 8388608) :
    Calls Tryd.prog 9 #[.agg #[va], .agg #[vb]] w fun e w' => e = .returned (.bool true) ∧ Below w.heap.size w w' := by
  have hs := fun w' (h : Below w.heap.size w w') => r_eqSourceS l va vb B E B' E' w' (Rep.keep (R := RSourceS) ha h) (Rep.keep (R := RSourceS) hb h) hn
  obtain ⟨A, c, rfl, _⟩ := ha.1.shape
  obtain ⟨A', c', rfl, _⟩ := hb.1.shape
  clear ha hb
  have HS := Lib.hid hs
  clear hs
  go_enter Tryd.func9, Tryd.ntmps9
  go_wp2_with (go_at_call 22; refine (HS.out _ (by repeat (first | exact Below.refl _ _ | refine Below.alloc ?_ (by first | omega | (simp; done) | (simp; omega)) _ | apply Below.drew | apply below_drewN | refine Below.setCell ?_ (by first | omega | (simp; done) | (simp; omega)) _ | refine Below.trans ?_ (Below.mono (by assumption) (by first | omega | (simp; done) | (simp; omega)))))).mono ?_; rintro e w1 ⟨rfl, hb1⟩)
  go_ret
  exact ⟨rfl, (by repeat (first | exact Below.refl _ _ | refine Below.alloc ?_ (by first | omega | (simp; done) | (simp; omega)) _ | apply Below.drew | apply below_drewN | refine Below.setCell ?_ (by first | omega | (simp; done) | (simp; omega)) _ | refine Below.trans ?_ (Below.mono (by assumption) (by first | omega | (simp; done) | (simp; omega)))))⟩
set_option maxHeartbeats 1000000 in
theorem markCert (l : List Src) (v : Value) (k0 B E : Nat) (w : World) (h : RSourceS.own B E w v l) (hE : E ≤ w.heap.size) (hn : RSourceS.cnt l ≤ 8388608) (h0 : 1 ≤ k0) (hk : k0 ≤ 67108864) :
    Calls Tryd.prog 12 #[.agg #[v], .int .i64 k0] w fun e w' => RSourceS.marked B E w v k0 l e w' := by
  have hs := r_markSourceS l v k0 B E _ (Rep.keep (R := RSourceS) h (Below.alloc (Below.refl _ _) (Nat.le_refl _) (.cells #[v] 29))) hn h0 hk
  obtain ⟨A, c, rfl, _⟩ := h.1.shape
  clear h
  go_enter Tryd.func12, Tryd.ntmps12
  go_wp2_with (go_at_call 31; refine hs.mono ?_; rintro e w1 ⟨rfl, o1, hc1⟩)
  go_ret
  exact ⟨rfl, o1, (Chg.of_below (Below.alloc (Below.refl _ _) (Nat.le_refl _) _)).trans hc1⟩
end Go.Proofs.YtiignbomjjfckaaDoor
