/- CertificateText, the reference: the whole function. -/
import Derived.Test.YtiignbomjjfckaaDoorCerS
namespace Go.Proofs.YtiignbomjjfckaaDoor
set_option linter.unusedVariables false
set_option linter.unusedSimpArgs false
open Go.RowKit
set_option maxHeartbeats 1000000 in
theorem ctext_s (B : Nat) (l : List Src) (v : Value) (w : World) (h : OwnL Src.cells 3 48 B w v l) (hn : l.length ≤ 1048576) :
    Calls Tryd.prog 6 #[.agg #[v]] w fun e w' => e = .returned (.string (cerS l)) ∧ Below w.heap.size w w' := by
  obtain ⟨A, c, rfl, hA⟩ := h.shape
  have HB : Below w.heap.size w (w.alloc (.cells #[.slice A l.length c] 29)) := Below.alloc (Below.refl _ _) (Nat.le_refl _) _
  have hbx : (w.alloc (.cells #[.slice A l.length c] 29)).cell? ⟨w.heap.size, 0, none⟩ = some (.slice A l.length c) := by simp
  have HA : ∀ w', Below w.heap.size w w' → (l = [] ∨ ∃ g, A = some ⟨g, 0, none⟩ ∧ g < w'.heap.size ∧ ∀ (k : Nat) (s : Src) (j : Nat) (u : Value), l[k]? = some s → s.cells[j]? = some u → w'.cell? ⟨g, k * 3 + j, none⟩ = some u) := fun w' hb => by
    by_cases hl0 : l = []
    · exact .inl hl0
    · obtain ⟨g, rfl, _, hg⟩ := hA.resolve_left hl0
      exact .inr ⟨g, rfl, Nat.lt_of_lt_of_le hg hb.size, fun k s j u h1 h2 => (hb.cell (p := ⟨g, _, none⟩) hg).trans (OwnL.cell Src.len h h1 h2)⟩
  have z0 : (w.alloc (.cells #[.slice A l.length c] 29)).heap.size = w.heap.size + 1 := by simp
  have HP := Lib.hid (certp_s w.heap.size c A l _ hbx (HA _ HB) hn)
  have HX := Lib.hid (fun (w1 : World) (hb1 : Below (w.alloc (.cells #[.slice A l.length c] 29)).heap.size (w.alloc (.cells #[.slice A l.length c] 29)) w1) (hok : certOk l = true) => ctextT_s w.heap.size c A l w1 ((hb1.cell (p := ⟨w.heap.size, 0, none⟩) (by show w.heap.size < _; omega)).trans hbx) (HA w1 (HB.trans (hb1.mono (by omega)))) hok)
  clear h hA HA
  cases hok : certOk l
  · rw [hok] at HP
    have HF := Lib.hid (cerS_no hok)
    clear HX
    go_enter Tryd.func6, Tryd.ntmps6
    go_wp2_with (fail)
    refine HP.out.mono ?_; rintro e w1 ⟨rfl, hb1⟩
    go_wp2
    go_ret
    exact ⟨ret_str HF.out.symm, HB.trans (hb1.mono (by omega))⟩
  · rw [hok] at HP
    have HF := Lib.hid (cerS_yes hok)
    have HXX := Lib.hid (fun w1 hb1 => HX.out w1 hb1 hok)
    clear HX hok
    go_enter Tryd.func6, Tryd.ntmps6
    go_wp2_with (fail)
    refine HP.out.mono ?_; rintro e w1 ⟨rfl, hb1⟩
    go_wp2_with (fail)
    refine (HXX.out w1 hb1).mono ?_; rintro e w2 ⟨rfl, hb2⟩
    go_wp2
    go_ret
    exact ⟨ret_str HF.out.symm, (HB.trans (hb1.mono (by omega))).trans (hb2.mono (by have := hb1.size; omega))⟩
end Go.Proofs.YtiignbomjjfckaaDoor
