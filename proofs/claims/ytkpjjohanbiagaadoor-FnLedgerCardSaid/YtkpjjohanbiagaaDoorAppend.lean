/- AppendEntry, impl and spec, and what they call: the walks. -/
import Derived.Test.YtkpjjohanbiagaaDoorFits
namespace Go.Proofs.YtkpjjohanbiagaaDoor
set_option linter.unusedVariables false
set_option linter.unusedSimpArgs false
open Go.RowKit

theorem ent_one (b : Ent) : ∀ u ∈ b.cells, u.oneCell' = true := by simp [Ent.cells, Value.oneCell']
set_option maxHeartbeats 1000000 in
theorem clone_ent (B : Nat) (v : Value) (l : List Ent) (w : World) (h : EntL B w v l) (hn : l.length ≤ 4096) :
    Calls Tryd.prog 49 #[v] w fun e w' => RetL Ent.cells 4 48 w l e w' := by
  obtain ⟨i0, hi, hz0, hz1, hz2⟩ := info_parts Ent.info
  have hnil := fun (w : World) (a : Option Addr) (n c n' c' : Nat) => Lib.run_eql_slice_nil (P := Tryd.prog) w 30 48 a n c n' c' Tryd.underlying30
  rcases h.2 with ⟨rfl, hl0⟩ | ⟨g, cap, cur, rfl, _⟩
  · obtain rfl : l = [] := List.eq_nil_of_length_eq_zero hl0
    go_enter Tryd.func49, Tryd.ntmps49
    go_wp2
    go_ret
    exact ⟨_, rfl, OwnL.of_nil, (by repeat (first | exact Below.refl _ _ | refine Below.alloc ?_ (by first | omega | (simp; done) | (simp; omega)) _ | apply Below.drew | apply below_drewN | refine Below.setCell ?_ (by first | omega | (simp; done) | (simp; omega)) _ | refine Below.trans ?_ (Below.mono (by assumption) (by first | omega | (simp; done) | (simp; omega)))))⟩
  · go_enter Tryd.func49, Tryd.ntmps49
    go_wp2_with (at_builtin; refine wpList_appAll Ent.cells 4 Ent.len _ rfl _ _ _ rfl w.heap.size B 48 48 i0 (.agg #[.string .empty, .int .i64 0, .int .i64 0, .int .i64 0]) 40 Tryd.underlying30 hi hz0 hz1 hz2 rfl (by omega) _ [] rfl (OwnL.of_empty w (Nat.le_refl _)) _ l rfl (h.alloc _) ent_one (by simp; omega) (by omega) (by simp) ?_; intro v' w2 how2 hg2)
    go_ret
    exact ⟨_, rfl, how2, own_grown_below (OwnL.of_empty (f := Ent.cells) (z := 4) (α := Ent) w (Nat.le_refl _)) (by repeat (first | exact Below.refl _ _ | refine Below.alloc ?_ (by first | omega | (simp; done) | (simp; omega)) _ | apply Below.drew | apply below_drewN | refine Below.setCell ?_ (by first | omega | (simp; done) | (simp; omega)) _ | refine Below.trans ?_ (Below.mono (by assumption) (by first | omega | (simp; done) | (simp; omega))))) hg2 (Nat.le_refl _) (by first | omega | (simp; done) | (simp; omega))⟩
def lastC (l : List Ent) : Int := if l.length = 0 then 0 else (l.getD (l.length - 1) default).chain
def nextE (l : List Ent) (v : ByteArray) (b a : Int) : Ent := ⟨v, b, a, chainI (lastC l) v b a⟩
def AppR (B : Nat) (w : World) (v : Value) (l : List Ent) (e : Ent) (r : Ending) (w' : World) : Prop := ∃ v', r = .returned v' ∧ EntL B w' v' (l ++ [e]) ∧ w.grownBy w' v.ownBlock
theorem grow_alloc {a w : World} {row : Option Nat} (h : a.grownBy w row) (o : Obj) : a.grownBy (w.alloc o) row := gtrans h (World.grownBy_alloc w o row)
theorem grow_below {a w w' : World} {row : Option Nat} (h : a.grownBy w row) (hb : Below w.heap.size w w') : a.grownBy w' row := gtrans h (grown_of_below hb row)
theorem grow_new {a w : World} {row : Option Nat} (h : a.grownBy w row) {p : Addr} (hp : a.heap.size ≤ p.block) (u : Value) : a.grownBy (w.setCell p u) row :=
  ⟨h.os, h.tape, h.output, by simpa [World.setCell] using h.size, fun i hi hne => (Below.heap_setCell w p u i (by omega)).trans (h.block i hi hne)⟩
theorem own_setNew {α : Type} {f : α → List Value} {z : Nat} {e : TypeId} {B g o : Nat} {w : World} {v : Value} {l : List α} (h : OwnL f z e B w v l) (hg : ∀ k, v.ownBlock = some k → k < g) (u : Value) : OwnL f z e B (w.setCell ⟨g, o, none⟩ u) v l := by
  refine h.kept (gset (World.grownBy.refl w (some g)) o u) ?_
  cases hk : v.ownBlock with
  | none => exact Or.inl rfl
  | some k => right; have := hg k hk; intro hh; injection hh with hh; omega
theorem own_cells {w : World} {n : Nat} {s : ByteArray} {b a c : Int} {t : TypeId} (hn : n = w.heap.size) : ∀ j u, (Ent.cells ⟨s, b, a, c⟩)[j]? = some u → (w.alloc (.cells #[.string s, .int .i64 b, .int .i64 a, .int .i64 c] t)).cell? ⟨n, j, none⟩ = some u := by
  intro j u hu
  rw [World.cell?_alloc_at _ _ _ _ hn]
  simpa [Ent.cells] using hu
/-- stops the walk at a goal -/
theorem stopW {p : Prop} (h : True → p) : p := h trivial
theorem lastC_get {l : List Ent} (h : l ≠ []) : lastC l = (l.getD (l.length - 1) default).chain := by
  have : l.length ≠ 0 := by simpa using h
  simp [lastC, this]
set_option maxHeartbeats 2000000 in
theorem append_i (B : Nat) (v : Value) (l : List Ent) (s : ByteArray) (b a c : Int) (w : World) (h : EntL B w v l) (hB : B ≤ w.heap.size) (hn : l.length ≤ 4096) (hl : 0 ≤ lastC l ∧ lastC l ≤ 65535) (hs : s.size ≤ 1048576) (hb : 0 ≤ b ∧ b ≤ 65535) (ha : 0 ≤ a ∧ a ≤ 65535) :
    Calls Tryd.prog 48 #[v, entV s b a c] w fun e w' => AppR B w v l (nextE l s b a) e w' := by
  obtain ⟨i0, hi, hz0, hz1, hz2⟩ := info_parts Ent.info
  obtain ⟨A, cp, hvv, hA⟩ := h.shape
  by_cases hl0 : l = []
  · subst hl0
    subst hvv
    have HE : Hid (nextE [] s b a = ⟨s, b, a, chainI 0 s b a⟩) := Lib.hid rfl
    go_enter Tryd.func48, Tryd.ntmps48
    go_wp2_with (fail)
    refine (chainI_i 0 s b a c _ (by omega) hs hb ha).mono ?_; rintro e w1 ⟨rfl, hb1⟩
    obtain ⟨hc1, hf1⟩ := bcell hb1
    have hz1' : w.heap.size < w1.heap.size := by have := hb1.size; simp at this; omega
    have h2 := ((h.alloc (.cells #[.string s, .int .i64 b, .int .i64 a, .int .i64 c] 48)).below hb1)
    have hg1 := grow_below (World.grownBy_alloc w (.cells #[.string s, .int .i64 b, .int .i64 a, .int .i64 c] 48) (Value.slice A 0 cp).ownBlock) hb1
    go_wp2_with (at_builtin; refine wpList_app1 Ent.cells 4 Ent.len _ rfl _ _ _ rfl B 48 i0 (.agg #[.string .empty, .int .i64 0, .int .i64 0, .int .i64 0]) 40 Tryd.underlying30 hi hz0 hz1 hz2 rfl (by omega) _ [] rfl ?own w1.heap.size 1 (nextE [] s b a) rfl ?cells (ent_one _) (by simp) (by omega) (by simp; omega) ?_; rotate_left 2; intro v' w2 how2 hg2)
    · have hg := gtrans (grow_alloc (grow_new hg1 (p := ⟨w.heap.size, 3, none⟩) (Nat.le_refl _) _) _) hg2
      go_ret
      exact ⟨_, rfl, how2, hg⟩
    · exact (own_setNew h2 (fun k hk => (h.lt k hk).2) _).alloc _
    · exact own_cells (by simp)
  · rcases hA with hA | ⟨g, rfl, hgB, hgw⟩
    · exact absurd hA hl0
    subst hvv
    have hlen : 0 < l.length := List.length_pos_iff.2 hl0
    obtain ⟨el, hel⟩ : ∃ el, l[l.length - 1]? = some el := ⟨_, List.getElem?_eq_getElem (by omega)⟩
    have hlc : lastC l = el.chain := by rw [lastC_get hl0, List.getD_eq_getElem?_getD, hel]; rfl
    have hcell := h.cell Ent.len hel (j := 3) (u := .int .i64 el.chain) rfl
    generalize hk : l.length - 1 = k at hcell hel
    have hn1 : l.length = k + 1 := by omega
    have hh : OwnL Ent.cells 4 48 B w (.slice (some ⟨g, 0, none⟩) (k + 1) cp) l := by rw [← hn1]; exact h
    have HE : Hid (nextE l s b a = ⟨s, b, a, chainI (lastC l) s b a⟩) := Lib.hid rfl
    go_enter Tryd.func48, Tryd.ntmps48
    go_wp2_with (fail)
    refine (chainI_i el.chain s b a c _ (by omega) hs hb ha).mono ?_; rintro e w1 ⟨rfl, hb1⟩
    rw [← hlc] at *
    obtain ⟨hc1, hf1⟩ := bcell hb1
    have hz1' : w.heap.size < w1.heap.size := by have := hb1.size; simp at this; omega
    have h2 := ((hh.alloc (.cells #[.string s, .int .i64 b, .int .i64 a, .int .i64 c] 48)).below hb1)
    have hg1 := grow_below (World.grownBy_alloc w (.cells #[.string s, .int .i64 b, .int .i64 a, .int .i64 c] 48) (some g)) hb1
    go_wp2_with (at_builtin; refine wpList_app1 Ent.cells 4 Ent.len _ rfl _ _ _ rfl B 48 i0 (.agg #[.string .empty, .int .i64 0, .int .i64 0, .int .i64 0]) 40 Tryd.underlying30 hi hz0 hz1 hz2 rfl (by omega) (.slice (some ⟨g, 0, none⟩) (k + 1) cp) l rfl ?own2 w1.heap.size 1 (nextE l s b a) rfl ?cells2 (ent_one _) (by omega) (by omega) (by simp; omega) ?_; rotate_left 2; intro v' w2 how2 hg2)
    · have hg := gtrans (grow_alloc (grow_new hg1 (p := ⟨w.heap.size, 3, none⟩) (Nat.le_refl _) _) _) hg2
      go_ret
      exact ⟨_, rfl, how2, hg⟩
    · exact (own_setNew h2 (fun k hk => (hh.lt k hk).2) _).alloc _
    · exact own_cells (by simp)
set_option maxHeartbeats 2000000 in
theorem append_s (B : Nat) (v : Value) (l : List Ent) (s : ByteArray) (b a : Int) (w : World) (h : EntL B w v l) (hB : B ≤ w.heap.size) (hn : l.length ≤ 4096) (hl : 0 ≤ lastC l ∧ lastC l ≤ 65535) (hs : s.size ≤ 1048576) (hb : 0 ≤ b ∧ b ≤ 65535) (ha : 0 ≤ a ∧ a ≤ 65535) :
    Calls Tryd.prog 82 #[v, .string s, .int .i64 b, .int .i64 a] w fun e w' => AppR B w v l (nextE l s b a) e w' := by
  obtain ⟨i0, hi, hz0, hz1, hz2⟩ := info_parts Ent.info
  obtain ⟨A, cp, hvv, hA⟩ := h.shape
  by_cases hl0 : l = []
  · subst hl0
    subst hvv
    have HE : Hid (nextE [] s b a = ⟨s, b, a, chainI 0 s b a⟩) := Lib.hid rfl
    go_enter Tryd.func82, Tryd.ntmps82
    go_wp2_with (fail)
    refine (chainI_s 0 s b a 0 _ (by omega) hs hb ha).mono ?_; rintro e w1 ⟨rfl, hb1⟩
    obtain ⟨hc1, hf1⟩ := bcell hb1
    have hz1' : w.heap.size < w1.heap.size := by have := hb1.size; simp at this; omega
    have h2 := ((h.alloc (.cells #[.string s, .int .i64 b, .int .i64 a, .int .i64 0] 48)).below hb1)
    have hg1 := grow_below (World.grownBy_alloc w (.cells #[.string s, .int .i64 b, .int .i64 a, .int .i64 0] 48) (Value.slice A 0 cp).ownBlock) hb1
    go_wp2_with (at_builtin; refine wpList_app1 Ent.cells 4 Ent.len _ rfl _ _ _ rfl B 48 i0 (.agg #[.string .empty, .int .i64 0, .int .i64 0, .int .i64 0]) 40 Tryd.underlying30 hi hz0 hz1 hz2 rfl (by omega) _ [] rfl ?own w1.heap.size 1 (nextE [] s b a) rfl ?cells (ent_one _) (by simp) (by omega) (by simp; omega) ?_; rotate_left 2; intro v' w2 how2 hg2)
    · have hg := gtrans (grow_alloc (grow_new hg1 (p := ⟨w.heap.size, 3, none⟩) (Nat.le_refl _) _) _) hg2
      go_ret
      exact ⟨_, rfl, how2, hg⟩
    · exact (own_setNew h2 (fun k hk => (h.lt k hk).2) _).alloc _
    · exact own_cells (by simp)
  · rcases hA with hA | ⟨g, rfl, hgB, hgw⟩
    · exact absurd hA hl0
    subst hvv
    have hlen : 0 < l.length := List.length_pos_iff.2 hl0
    obtain ⟨el, hel⟩ : ∃ el, l[l.length - 1]? = some el := ⟨_, List.getElem?_eq_getElem (by omega)⟩
    have hlc : lastC l = el.chain := by rw [lastC_get hl0, List.getD_eq_getElem?_getD, hel]; rfl
    have hcell := h.cell Ent.len hel (j := 3) (u := .int .i64 el.chain) rfl
    generalize hk : l.length - 1 = k at hcell hel
    have hn1 : l.length = k + 1 := by omega
    have hh : OwnL Ent.cells 4 48 B w (.slice (some ⟨g, 0, none⟩) (k + 1) cp) l := by rw [← hn1]; exact h
    have HE : Hid (nextE l s b a = ⟨s, b, a, chainI (lastC l) s b a⟩) := Lib.hid rfl
    go_enter Tryd.func82, Tryd.ntmps82
    go_wp2_with (fail)
    refine (chainI_s el.chain s b a 0 _ (by omega) hs hb ha).mono ?_; rintro e w1 ⟨rfl, hb1⟩
    rw [← hlc] at *
    obtain ⟨hc1, hf1⟩ := bcell hb1
    have hz1' : w.heap.size < w1.heap.size := by have := hb1.size; simp at this; omega
    have h2 := ((hh.alloc (.cells #[.string s, .int .i64 b, .int .i64 a, .int .i64 0] 48)).below hb1)
    have hg1 := grow_below (World.grownBy_alloc w (.cells #[.string s, .int .i64 b, .int .i64 a, .int .i64 0] 48) (some g)) hb1
    go_wp2_with (at_builtin; refine wpList_app1 Ent.cells 4 Ent.len _ rfl _ _ _ rfl B 48 i0 (.agg #[.string .empty, .int .i64 0, .int .i64 0, .int .i64 0]) 40 Tryd.underlying30 hi hz0 hz1 hz2 rfl (by omega) (.slice (some ⟨g, 0, none⟩) (k + 1) cp) l rfl ?own2 w1.heap.size 1 (nextE l s b a) rfl ?cells2 (ent_one _) (by omega) (by omega) (by simp; omega) ?_; rotate_left 2; intro v' w2 how2 hg2)
    · have hg := gtrans (grow_alloc (grow_new hg1 (p := ⟨w.heap.size, 3, none⟩) (Nat.le_refl _) _) _) hg2
      go_ret
      exact ⟨_, rfl, how2, hg⟩
    · exact (own_setNew h2 (fun k hk => (hh.lt k hk).2) _).alloc _
    · exact own_cells (by simp)
end Go.Proofs.YtkpjjohanbiagaaDoor
