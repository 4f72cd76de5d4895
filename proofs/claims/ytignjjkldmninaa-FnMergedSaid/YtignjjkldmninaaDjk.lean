/- Values in different blocks; what grows elsewhere. -/
import Derived.Test.YtignjjkldmninaaSMerge
namespace Go.Proofs.Ytignjjkldmninaa
set_option linter.unusedVariables false
open Go.RowKit
/-- two values lie in different blocks -/
def Dj (u v : Value) : Prop := ∀ b, u.ownBlock = some b → v.ownBlock ≠ some b
theorem Dj.symm {u v : Value} (h : Dj u v) : Dj v u := fun b h1 h2 => h b h2 h1
theorem Dj.new {u u' v : Value} {N : Nat} (h : Dj u v) (hb : u'.ownBlock = u.ownBlock ∨ u'.ownBlock = some N) (hv : ∀ b, v.ownBlock = some b → b < N) : Dj u' v := fun b h1 h2 => by
  rcases hb with hb | hb
  · exact h b (hb ▸ h1) h2
  · rw [h1] at hb; injection hb with hb; have := hv b h2; omega
theorem Dj.nil {v : Value} : Dj (.slice none 0 0) v := fun b h => by cases h
theorem OwnL.notIn {α : Type} {f : α → List Value} {z : Nat} {e : TypeId} {B g o : Nat} {w : World} {v u : Value} {l : List α} (h : OwnL f z e B w v l) (hg : v.ownBlock ≠ some g) : OwnL f z e B (w.setCell ⟨g, o, none⟩ u) v l := by
  refine ⟨h.1, ?_⟩
  rcases h.2 with hn | ⟨b, cap, cur, rfl, hbg, hh, rest⟩
  · exact .inl hn
  · exact .inr ⟨b, cap, cur, rfl, hbg, (Below.heap_setCell w ⟨g, o, none⟩ u b (by intro e; have e' : b = g := e; subst e'; exact hg rfl)).trans hh, rest⟩
theorem Row.grown {w w' : World} {b : Nat} {us : List Value} {row : Option Nat} (h : Row w b us) (hg : w.grownBy w' row) (hl : b < w.heap.size) (hr : row ≠ some b) : Row w' b us := fun j u hu => (World.cell?_of_block (a := ⟨b, j, none⟩) (hg.block b hl (fun e => hr e.symm))).trans (h j u hu)
theorem frozen_grown {w w' : World} {b : Nat} {v : Bool} {row : Option Nat} (h : ∀ o, w.frozen? ⟨b, o, none⟩ = v) (hg : w.grownBy w' row) (hl : b < w.heap.size) (hr : row ≠ some b) : ∀ o, w'.frozen? ⟨b, o, none⟩ = v := fun o => (World.frozen?_of_block (a := ⟨b, o, none⟩) (hg.block b hl (fun e => hr e.symm))).trans (h o)
theorem dj_kept {u v : Value} (h : Dj u v) : u.ownBlock = none ∨ u.ownBlock ≠ v.ownBlock := by
  cases e : u.ownBlock with
  | none => exact .inl rfl
  | some b => exact .inr fun h' => h b e h'.symm
theorem lt_of_own {α : Type} {f : α → List Value} {z : Nat} {e : TypeId} {B : Nat} {w : World} {v : Value} {l : List α} (h : OwnL f z e B w v l) : ∀ b, v.ownBlock = some b → B ≤ b ∧ b < w.heap.size := fun b hb => World.ownsRow.lt h b hb
theorem new_ne {u u' : Value} {N b : Nat} (h : u.ownBlock ≠ some b) (hb : u'.ownBlock = u.ownBlock ∨ u'.ownBlock = some N) (hN : b < N) : u'.ownBlock ≠ some b := by
  rcases hb with hb | hb
  · rw [hb]; exact h
  · rw [hb]; intro e; injection e with e; omega
theorem own_slice {α : Type} {f : α → List Value} {z : Nat} {e : TypeId} {B : Nat} {w : World} {v : Value} {l : List α} (h : OwnL f z e B w v l) : ∃ A n c, v = .slice A n c := by
  obtain ⟨A, c, h1, _⟩ := OwnL.shape h
  exact ⟨_, _, _, h1⟩
end Go.Proofs.Ytignjjkldmninaa
