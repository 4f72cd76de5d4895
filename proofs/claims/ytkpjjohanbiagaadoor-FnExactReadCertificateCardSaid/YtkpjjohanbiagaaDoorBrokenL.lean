/- FirstBroken and ValidLedger over slices of the call's own. -/
import Derived.Test.YtkpjjohanbiagaaDoorBroken
import Derived.Test.YtkpjjohanbiagaaDoorHEntry
namespace Go.Proofs.YtkpjjohanbiagaaDoor
set_option linter.unusedVariables false
set_option linter.unusedSimpArgs false
open Go.RowKit

abbrev EntL (B : Nat) (w : World) (v : Value) (l : List Ent) : Prop := OwnL Ent.cells 4 48 B w v l
theorem EntS.of {B g c : Nat} {w : World} {l : List Ent} (h : EntL B w (.slice (some ⟨g, 0, none⟩) l.length c) l) (hg : g < w.heap.size) : EntS w g l :=
  ⟨hg, fun k e he => ⟨OwnL.cell Ent.len h he (j := 0) rfl, OwnL.cell Ent.len h he rfl, OwnL.cell Ent.len h he rfl, OwnL.cell Ent.len h he rfl⟩⟩
set_option maxHeartbeats 1000000 in
theorem brokenL_i (B : Nat) (v : Value) (l : List Ent) (w : World) (hn : l.length ≤ 1048576) (h : EntL B w v l) (hv : ∀ e ∈ l, e.verb.size ≤ 1048576) :
    Calls Tryd.prog 21 #[v] w fun e w' => e = .returned (.int .i64 (broken 0 0 0 l)) ∧ Below w.heap.size w w' := by
  obtain ⟨A, c, rfl, hA⟩ := h.shape
  rcases hA with rfl | ⟨g, rfl, _, hg⟩
  · go_enter Tryd.func21, Tryd.ntmps21
    go_wp2
    refine wp_loop_once ?_
    go_wp2
    go_ret
    exact ⟨rfl, (by repeat (first | exact Below.refl _ _ | refine Below.alloc ?_ (by first | omega | (simp; done) | (simp; omega)) _ | apply Below.drew | apply below_drewN | refine Below.setCell ?_ (by first | omega | (simp; done) | (simp; omega)) _ | refine Below.trans ?_ (Below.mono (by assumption) (by first | omega | (simp; done) | (simp; omega)))))⟩
  · exact broken_i g l.length c l w rfl hn (EntS.of h hg) hv
set_option maxHeartbeats 1000000 in
theorem brokenL_s (B : Nat) (v : Value) (l : List Ent) (w : World) (hn : l.length ≤ 1048576) (h : EntL B w v l) (hv : ∀ e ∈ l, e.verb.size ≤ 1048576) :
    Calls Tryd.prog 66 #[v] w fun e w' => e = .returned (.int .i64 (broken 0 0 0 l)) ∧ Below w.heap.size w w' := by
  obtain ⟨A, c, rfl, hA⟩ := h.shape
  rcases hA with rfl | ⟨g, rfl, _, hg⟩
  · go_enter Tryd.func66, Tryd.ntmps66
    go_wp2
    refine wp_loop_once ?_
    go_wp2
    go_ret
    exact ⟨rfl, (by repeat (first | exact Below.refl _ _ | refine Below.alloc ?_ (by first | omega | (simp; done) | (simp; omega)) _ | apply Below.drew | apply below_drewN | refine Below.setCell ?_ (by first | omega | (simp; done) | (simp; omega)) _ | refine Below.trans ?_ (Below.mono (by assumption) (by first | omega | (simp; done) | (simp; omega)))))⟩
  · exact broken_s g l.length c l w rfl hn (EntS.of h hg) hv
def ledgerOk (l : List Ent) : Bool := decide (broken 0 0 0 l < 0)
theorem valid_i (B : Nat) (v : Value) (l : List Ent) (w : World) (hn : l.length ≤ 1048576) (h : EntL B w v l) (hv : ∀ e ∈ l, e.verb.size ≤ 1048576) :
    Calls Tryd.prog 20 #[v] w fun e w' => e = .returned (.bool (ledgerOk l)) ∧ Below w.heap.size w w' := by
  go_enter Tryd.func20, Tryd.ntmps20
  go_wp2_with (go_at_call 21; refine (brokenL_i B v l w hn h hv).mono ?_; rintro e w1 ⟨rfl, hb1⟩)
  go_ret
  exact ⟨rfl, (by repeat (first | exact Below.refl _ _ | refine Below.alloc ?_ (by first | omega | (simp; done) | (simp; omega)) _ | apply Below.drew | apply below_drewN | refine Below.setCell ?_ (by first | omega | (simp; done) | (simp; omega)) _ | refine Below.trans ?_ (Below.mono (by assumption) (by first | omega | (simp; done) | (simp; omega)))))⟩
theorem valid_s0 (B : Nat) (v : Value) (l : List Ent) (w : World) (hn : l.length ≤ 1048576) (h : EntL B w v l) (hv : ∀ e ∈ l, e.verb.size ≤ 1048576) :
    Calls Tryd.prog 38 #[v] w fun e w' => e = .returned (.bool (ledgerOk l)) ∧ Below w.heap.size w w' := by
  go_enter Tryd.func38, Tryd.ntmps38
  go_wp2_with (go_at_call 66; refine (brokenL_s B v l w hn h hv).mono ?_; rintro e w1 ⟨rfl, hb1⟩)
  go_ret
  exact ⟨rfl, (by repeat (first | exact Below.refl _ _ | refine Below.alloc ?_ (by first | omega | (simp; done) | (simp; omega)) _ | apply Below.drew | apply below_drewN | refine Below.setCell ?_ (by first | omega | (simp; done) | (simp; omega)) _ | refine Below.trans ?_ (Below.mono (by assumption) (by first | omega | (simp; done) | (simp; omega)))))⟩
theorem wt_le {l : List Ent} {e : Ent} (he : e ∈ l) : e.verb.size ≤ Ent.wts l := by
  induction l with
  | nil => cases he
  | cons a l ih =>
    show _ ≤ a.wt + Ent.wts l
    cases List.mem_cons.1 he with
    | inl h => subst h; exact Nat.le_add_right _ _
    | inr h => exact Nat.le_trans (ih h) (Nat.le_add_left _ _)

end Go.Proofs.YtkpjjohanbiagaaDoor
