/- ReadCertificate: both functions' contracts by one reading. -/
import Derived.Test.YtkpjjohanbiagaaDoorRcS
import Derived.Test.YtkpjjohanbiagaaDoorHCert
namespace Go.Proofs.YtkpjjohanbiagaaDoor
set_option linter.unusedVariables false
set_option linter.unusedSimpArgs false
open Go.RowKit
abbrev RcL (w : World) (s : ByteArray) (e : Ending) (w' : World) : Prop := ∃ v, e = .returned (.tuple #[.agg #[v], .bool (rcS s.data.toList).2]) ∧ RSourceS.own w.heap.size w'.heap.size w' v (rcS s.data.toList).1 ∧ Below w.heap.size w w'
theorem rcS_len (s : List UInt8) : (rcS s).1.length ≤ 128 := by
  unfold rcS
  split
  · rename_i h
    split
    · rename_i l hl
      split
      · rename_i hok
        exact cer_len hok
      · simp
    · simp
  · simp
theorem readc_i (s : ByteArray) (w : World) (hs : s.size ≤ 1048576) (env : EnvR w) (wd : Wrd w) : Calls Tryd.prog 7 #[.string s] w (RcL w s) := by
  refine (rc_i s w hs env wd).mono ?_
  rintro e w' ⟨v, rfl, ho, hb⟩
  rw [rc_same] at *
  exact ⟨v, rfl, ⟨ho, fun g hg => (World.ownsRow.lt ho g hg).2⟩, hb⟩
theorem readc_s (s : ByteArray) (w : World) (hs : s.size ≤ 1048576) : Calls Tryd.prog 6 #[.string s] w (RcL w s) := by
  refine (rcl_s s w hs).mono ?_
  rintro e w' ⟨v, rfl, ho, hb⟩
  exact ⟨v, rfl, ⟨ho, fun g hg => (World.ownsRow.lt ho g hg).2⟩, hb⟩
theorem heldCert (l : List Src) (v : Value) (k0 B E : Nat) (w : World) (h : RSourceS.own B E w v (RSourceS.mark k0 l)) (hn : RSourceS.cnt l ≤ 8388608) (h0 : 1 ≤ k0) (hk : k0 ≤ 67108864) :
    Calls Tryd.prog 10 #[.agg #[v], .int .i64 k0] w fun e w' => e = .returned (.int .i64 ((k0 + RSourceS.cnt l : Nat) : Int)) ∧ Below w.heap.size w w' := by
  have hs := r_heldSourceS l v k0 B E _ (Rep.keep (R := RSourceS) h (Below.alloc (Below.refl _ _) (Nat.le_refl _) (.cells #[v] 24))) hn h0 hk
  obtain ⟨A, c, rfl, _⟩ := h.1.shape
  clear h
  generalize k0 + RSourceS.cnt l = r at *
  go_enter Tryd.func10, Tryd.ntmps10
  go_wp2_with (go_at_call 37; refine hs.mono ?_; rintro e w1 ⟨rfl, hb1⟩)
  go_ret
  exact ⟨rfl, (Below.alloc (Below.refl _ _) (Nat.le_refl _) _).trans (hb1.mono (by simp))⟩
end Go.Proofs.YtkpjjohanbiagaaDoor
