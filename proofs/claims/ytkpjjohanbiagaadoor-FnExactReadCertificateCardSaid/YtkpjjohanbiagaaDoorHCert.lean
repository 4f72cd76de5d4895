/- The laws' own helpers over a certificate. -/
import Derived.Test.YtkpjjohanbiagaaDoorHSource
namespace Go.Proofs.YtkpjjohanbiagaaDoor
set_option linter.unusedVariables false
set_option linter.unusedSimpArgs false
open Go.RowKit

theorem Chg.set {B E : Nat} {w w' : World} (h : Chg B E w w') {g o : Nat} {u : Value} (hg : B ≤ g ∧ g < E) : Chg B E w (w'.setCell ⟨g, o, none⟩ u) :=
  ⟨h.os, h.tape, h.output, by simpa using h.size, fun i hi hne => (Below.heap_setCell _ _ _ i (by rintro rfl; exact hne hg)).trans (h.block i hi hne)⟩
theorem own_src {B E B' E' : Nat} {w : World} {v : Value} {l : List Src} (h : RSourceS.own B E w v l) (hB : B' ≤ B) (hE : E ≤ E') : RSourceS.own B' E' w v l := ⟨h.1.base hB, fun g hg => Nat.lt_of_lt_of_le (h.2 g hg) hE⟩
set_option maxHeartbeats 1000000 in
theorem eqCert (l : List Src) (va vb : Value) (B E B' E' : Nat) (w : World) (ha : RSourceS.own B E w va l) (hb : RSourceS.own B' E' w vb l) (hn : RSourceS.cnt l ≤ 8388608) :
    Calls Tryd.prog 8 #[.agg #[va], .agg #[vb]] w fun e w' => e = .returned (.bool true) ∧ Below w.heap.size w w' := by
  have hs := fun w' (h : Below w.heap.size w w') => r_eqSourceS l va vb B E B' E' w' (Rep.keep (R := RSourceS) ha h) (Rep.keep (R := RSourceS) hb h) hn
  obtain ⟨A, c, rfl, _⟩ := ha.1.shape
  obtain ⟨A', c', rfl, _⟩ := hb.1.shape
  clear ha hb
  have HS := Lib.hid hs
  clear hs
  go_enter Tryd.func8, Tryd.ntmps8
  go_wp2_with (go_at_call 35; refine (HS.out _ (by repeat (first | exact Below.refl _ _ | refine Below.alloc ?_ (by first | omega | (simp; done) | (simp; omega)) _ | apply Below.drew | apply below_drewN | refine Below.setCell ?_ (by first | omega | (simp; done) | (simp; omega)) _ | refine Below.trans ?_ (Below.mono (by assumption) (by first | omega | (simp; done) | (simp; omega)))))).mono ?_; rintro e w1 ⟨rfl, hb1⟩)
  go_ret
  exact ⟨rfl, (by repeat (first | exact Below.refl _ _ | refine Below.alloc ?_ (by first | omega | (simp; done) | (simp; omega)) _ | apply Below.drew | apply below_drewN | refine Below.setCell ?_ (by first | omega | (simp; done) | (simp; omega)) _ | refine Below.trans ?_ (Below.mono (by assumption) (by first | omega | (simp; done) | (simp; omega)))))⟩
set_option maxHeartbeats 1000000 in
theorem markCert (l : List Src) (v : Value) (k0 B E : Nat) (w : World) (h : RSourceS.own B E w v l) (hE : E ≤ w.heap.size) (hn : RSourceS.cnt l ≤ 8388608) (h0 : 1 ≤ k0) (hk : k0 ≤ 67108864) :
    Calls Tryd.prog 9 #[.agg #[v], .int .i64 k0] w fun e w' => RSourceS.marked B E w v k0 l e w' := by
  have hs := r_markSourceS l v k0 B E _ (Rep.keep (R := RSourceS) h (Below.alloc (Below.refl _ _) (Nat.le_refl _) (.cells #[v] 24))) hn h0 hk
  obtain ⟨A, c, rfl, _⟩ := h.1.shape
  clear h
  go_enter Tryd.func9, Tryd.ntmps9
  go_wp2_with (go_at_call 36; refine hs.mono ?_; rintro e w1 ⟨rfl, o1, hc1⟩)
  go_ret
  exact ⟨rfl, o1, (Chg.of_below (Below.alloc (Below.refl _ _) (Nat.le_refl _) _)).trans hc1⟩
end Go.Proofs.YtkpjjohanbiagaaDoor
