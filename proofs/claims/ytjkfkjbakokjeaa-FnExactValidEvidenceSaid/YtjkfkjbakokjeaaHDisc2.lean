/- The laws' own helpers over discs: copies. -/
import Derived.Test.YtjkfkjbakokjeaaHDisc
namespace Go.Proofs.Ytjkfkjbakokjeaa
set_option linter.unusedVariables false
open Go.RowKit
def dpc (p : Dsc × Value) : List Value := [.int .i64 p.1.cyl, .int .i64 p.1.heads, .int .i64 p.1.per, .int .i64 p.1.size, p.2]
theorem dpc_len (p : Dsc × Value) : (dpc p).length = 5 := rfl
theorem dpc_info : (Try.prog.info? 46).map (fun i => (i.zero, i.size, i.bytes)) = some (some (.agg #[.int .i64 0, .int .i64 0, .int .i64 0, .int .i64 0, .slice none 0 0]), 5, 56) := by kernel_rfl
theorem far_set {α : Type} {f : α → List Value} {z : Nat} {e : TypeId} {B g o : Nat} {w : World} {v u : Value} {l : List α} (h : OwnL f z e B w v l) (hg : g < B) : OwnL f z e B (w.setCell ⟨g, o, none⟩ u) v l := by
  refine h.kept (gset (World.grownBy.refl w _) o u) ?_
  cases hv : v.ownBlock with
  | none => exact .inl rfl
  | some q => exact .inr (by intro he; have := (World.ownsRow.lt h q hv).1; injection he with he; omega)
abbrev set5 (w : World) (b o : Nat) (u0 u1 u2 u3 u4 : Value) : World := ((((w.setCell ⟨b, o, none⟩ u0).setCell ⟨b, o + 1, none⟩ u1).setCell ⟨b, o + 2, none⟩ u2).setCell ⟨b, o + 3, none⟩ u3).setCell ⟨b, o + 4, none⟩ u4
theorem far_set5 {α : Type} {f : α → List Value} {z : Nat} {e : TypeId} {B g o : Nat} {w : World} {v u0 u1 u2 u3 u4 : Value} {l : List α} (h : OwnL f z e B w v l) (hg : g < B) : OwnL f z e B (set5 w g o u0 u1 u2 u3 u4) v l :=
  far_set (far_set (far_set (far_set (far_set h hg) hg) hg) hg) hg
theorem ne_off {b x y : Nat} (h : x ≠ y) : (⟨b, x, none⟩ : Addr) ≠ ⟨b, y, none⟩ := fun e => by injection e with _ e2 _; exact h e2
theorem set5_at {w : World} {b : Nat} {u0 u1 u2 u3 u4 t0 t1 t2 t3 t4 : Value} (h0 : w.cell? ⟨b, 0, none⟩ = some t0) (h1 : w.cell? ⟨b, 1, none⟩ = some t1) (h2 : w.cell? ⟨b, 2, none⟩ = some t2) (h3 : w.cell? ⟨b, 3, none⟩ = some t3) (h4 : w.cell? ⟨b, 4, none⟩ = some t4) :
    (set5 w b 0 u0 u1 u2 u3 u4).cell? ⟨b, 0, none⟩ = some u0 ∧ (set5 w b 0 u0 u1 u2 u3 u4).cell? ⟨b, 1, none⟩ = some u1 ∧ (set5 w b 0 u0 u1 u2 u3 u4).cell? ⟨b, 2, none⟩ = some u2 ∧ (set5 w b 0 u0 u1 u2 u3 u4).cell? ⟨b, 3, none⟩ = some u3 ∧ (set5 w b 0 u0 u1 u2 u3 u4).cell? ⟨b, 4, none⟩ = some u4 := by
  have O := fun (W : World) (x y : Nat) (u : Value) (h : x ≠ y) => World.cell?_setCell_other W _ _ u (ne_off (b := b) h)
  refine ⟨?_, ?_, ?_, ?_, ?_⟩
  · rw [O _ _ _ _ (by omega), O _ _ _ _ (by omega), O _ _ _ _ (by omega), O _ _ _ _ (by omega)]; exact World.cell?_setCell_same _ _ _ h0
  · rw [O _ _ _ _ (by omega), O _ _ _ _ (by omega), O _ _ _ _ (by omega)]; exact World.cell?_setCell_same _ _ _ (by rw [O _ _ _ _ (by omega)]; exact h1)
  · rw [O _ _ _ _ (by omega), O _ _ _ _ (by omega)]; exact World.cell?_setCell_same _ _ _ (by rw [O _ _ _ _ (by omega), O _ _ _ _ (by omega)]; exact h2)
  · rw [O _ _ _ _ (by omega)]; exact World.cell?_setCell_same _ _ _ (by rw [O _ _ _ _ (by omega), O _ _ _ _ (by omega), O _ _ _ _ (by omega)]; exact h3)
  · exact World.cell?_setCell_same _ _ _ (by rw [O _ _ _ _ (by omega), O _ _ _ _ (by omega), O _ _ _ _ (by omega), O _ _ _ _ (by omega)]; exact h4)
set_option maxHeartbeats 2000000 in
theorem toDsc (d : Dsc) (bv : Value) (w : World) (h : SecIn w bv d.secs) (hn : d.secs.length ≤ 1048576) :
    Calls Try.prog 20 #[dscV d bv] w fun e w' => ∃ A c, e = .returned (dscV d (.slice A d.secs.length c)) ∧ SecOwn w.heap.size w' (.slice A d.secs.length c) d.secs ∧ Below w.heap.size w w' := by
  have HH := Lib.hid h
  obtain ⟨⟨A, c, rfl, _, _⟩, _⟩ := h
  go_enter Try.func20, Try.ntmps20
  go_wp2_with (fail)
  refine (toSectorS d.secs _ _ ((HH.out.below (by repeat (first | exact Below.refl _ _ | refine Below.alloc ?_ (by first | omega | (simp; done) | (simp; omega)) _ | apply Below.drew | apply below_drewN | refine Below.setCell ?_ (by first | omega | (simp; done) | (simp; omega)) _ | refine Below.trans ?_ (Below.mono (by assumption) (by first | omega | (simp; done) | (simp; omega)))))).1) hn).mono ?_; rintro e w1 ⟨v1, rfl, o1, hb1⟩
  obtain ⟨hc1, hf1⟩ := bcell hb1
  have hz1 : w.heap.size + 3 ≤ w1.heap.size := by have := hb1.size; (try simp at this); omega
  have o2 : SecOwn (w.heap.size + 3) w1 v1 d.secs := by simpa using o1
  clear o1
  obtain ⟨A1, c1, rfl, _⟩ := OwnL.shape o2
  go_wp2
  have q0 : w1.cell? ⟨w.heap.size + 1, 0, none⟩ = some (.int .i64 0) := by rw [hc1 (w.heap.size + 1) 0 (by simp)]; simp [go_sem]
  have q1 : w1.cell? ⟨w.heap.size + 1, 1, none⟩ = some (.int .i64 0) := by rw [hc1 (w.heap.size + 1) 1 (by simp)]; simp [go_sem]
  have q2 : w1.cell? ⟨w.heap.size + 1, 2, none⟩ = some (.int .i64 0) := by rw [hc1 (w.heap.size + 1) 2 (by simp)]; simp [go_sem]
  have q3 : w1.cell? ⟨w.heap.size + 1, 3, none⟩ = some (.int .i64 0) := by rw [hc1 (w.heap.size + 1) 3 (by simp)]; simp [go_sem]
  have q4 : w1.cell? ⟨w.heap.size + 1, 4, none⟩ = some (.slice none 0 0) := by rw [hc1 (w.heap.size + 1) 4 (by simp)]; simp [go_sem]
  have ne1 : ∀ x y : Nat, (⟨w.heap.size + 1 + 1, x, none⟩ : Addr) ≠ ⟨w.heap.size + 1, y, none⟩ := fun x y e => by injection e with e1; omega
  have P := fun (y : Nat) (t : Value) (hq : w1.cell? ⟨w.heap.size + 1, y, none⟩ = some t) => (World.cell?_setCell_other w1 _ _ (.slice A1 d.secs.length c1) (ne1 4 y)).trans hq
  obtain ⟨s0, s1, s2, s3, s4⟩ := set5_at (u0 := .int .i64 d.cyl) (u1 := .int .i64 d.heads) (u2 := .int .i64 d.per) (u3 := .int .i64 d.size) (u4 := .slice A1 d.secs.length c1) (P 0 _ q0) (P 1 _ q1) (P 2 _ q2) (P 3 _ q3) (P 4 _ q4)
  have o3 := far_set5 (g := w.heap.size + 1) (o := 0) (u0 := .int .i64 d.cyl) (u1 := .int .i64 d.heads) (u2 := .int .i64 d.per) (u3 := .int .i64 d.size) (u4 := .slice A1 d.secs.length c1) (far_set (g := w.heap.size + 1 + 1) (o := 4) (u := .slice A1 d.secs.length c1) o2 (by omega)) (by omega)
  have hB1 : Below w.heap.size w w1 := (by repeat (first | exact Below.refl _ _ | refine Below.alloc ?_ (by first | omega | (simp; done) | (simp; omega)) _ | apply Below.drew | apply below_drewN | refine Below.setCell ?_ (by first | omega | (simp; done) | (simp; omega)) _ | refine Below.trans ?_ (Below.mono (by assumption) (by first | omega | (simp; done) | (simp; omega)))))
  have hle : w.heap.size ≤ w.heap.size + 1 := by omega
  have hle2 : w.heap.size ≤ w.heap.size + 1 + 1 := by omega
  have hB : Below w.heap.size w (set5 (w1.setCell ⟨w.heap.size + 1 + 1, 4, none⟩ (.slice A1 d.secs.length c1)) (w.heap.size + 1) 0 (.int .i64 d.cyl) (.int .i64 d.heads) (.int .i64 d.per) (.int .i64 d.size) (.slice A1 d.secs.length c1)) := Below.setCell (Below.setCell (Below.setCell (Below.setCell (Below.setCell (Below.setCell hB1 hle2 _) hle _) hle _) hle _) hle _) hle _
  show bodyPost _ _ _ _ _ (set5 (w1.setCell ⟨w.heap.size + 1 + 1, 4, none⟩ (.slice A1 d.secs.length c1)) (w.heap.size + 1) 0 (.int .i64 d.cyl) (.int .i64 d.heads) (.int .i64 d.per) (.int .i64 d.size) (.slice A1 d.secs.length c1))
  clear P q0 q1 q2 q3 q4 hc1 hf1 o2 hb1
  generalize (set5 (w1.setCell ⟨w.heap.size + 1 + 1, 4, none⟩ (.slice A1 d.secs.length c1)) (w.heap.size + 1) 0 (.int .i64 d.cyl) (.int .i64 d.heads) (.int .i64 d.per) (.int .i64 d.size) (.slice A1 d.secs.length c1)) = W at *
  refine bodyPost_ret (v := dscV d (.slice A1 d.secs.length c1)) (by simp [results, Try.results20, go_sem, s0, s1, s2, s3, s4]; try done) rfl ⟨A1, c1, rfl, OwnL.base o3 (by omega), hB⟩
end Go.Proofs.Ytjkfkjbakokjeaa
