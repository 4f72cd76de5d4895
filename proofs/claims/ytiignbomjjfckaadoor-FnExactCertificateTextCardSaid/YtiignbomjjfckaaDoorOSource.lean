/- Opening a slice of laws.Source that came in. Printed by gen_flat.py. -/
import Derived.Test.YtiignbomjjfckaaDoorOpen
import Derived.Test.YtiignbomjjfckaaDoorHSource
namespace Go.Proofs.YtiignbomjjfckaaDoor
set_option linter.unusedVariables false
set_option linter.unusedSimpArgs false
open Go.ChangeShapes Go.WideShapes Go.ChangeAt Go.RowKit
set_option maxRecDepth 20000

section
variable {H : Type} {enc : TypeId × Value → H} {W : World} {base : Nat} {v : Value} {d : DataW H} {p : List MemPlace} {fuel : Nat} {sp : Nat → Bool} {hd : Bool} {b0 : Nat} {cs : List Value} {x : DataW H × List MemPlace}
theorem c_Source (h : DataW.trod enc Tryd.prog W b0 sp hd fuel 74 cs = some x) : ∃ e : Src, cs = e.cells := by
  obtain ⟨xs, n, rfl, _, hlen, hxs, hfs⟩ := DataW.trod_struct Tryd.underlying74 h
  have hC : Tryd.prog.cellsOf 74 = 3 := by kernel_rfl
  rw [hC] at hlen
  obtain ⟨c0, c1, c2, rfl⟩ : ∃ c0 c1 c2, cs = [c0, c1, c2] := by
    match cs, hlen with
    | [c0, c1, c2], _ => exact ⟨_, _, _, rfl⟩
  have f0 : DataW.trod enc Tryd.prog W b0 sp hd n 2 (List.take (Tryd.prog.cellsOf 2) (List.drop 0 [c0, c1, c2])) = xs[0]? := hfs 0 _ rfl
  have k0 : Tryd.prog.cellsOf 2 = 1 := by kernel_rfl
  rw [k0] at f0
  simp only [List.drop, List.take] at f0
  obtain ⟨y0, hy0⟩ : ∃ y, xs[0]? = some y := ⟨xs[0]'(by rw [hxs]; decide), List.getElem?_eq_getElem _⟩
  rw [hy0] at f0
  obtain ⟨x0, e0, _, w0⟩ := DataW.trod_int Tryd.underlying2 f0
  have g0 : c0 = .int .i64 x0 := by simpa using e0
  have f1 : DataW.trod enc Tryd.prog W b0 sp hd n 2 (List.take (Tryd.prog.cellsOf 2) (List.drop 1 [c0, c1, c2])) = xs[1]? := hfs 1 _ rfl
  have k1 : Tryd.prog.cellsOf 2 = 1 := by kernel_rfl
  rw [k1] at f1
  simp only [List.drop, List.take] at f1
  obtain ⟨y1, hy1⟩ : ∃ y, xs[1]? = some y := ⟨xs[1]'(by rw [hxs]; decide), List.getElem?_eq_getElem _⟩
  rw [hy1] at f1
  obtain ⟨x1, e1, _, w1⟩ := DataW.trod_int Tryd.underlying2 f1
  have g1 : c1 = .int .i64 x1 := by simpa using e1
  have f2 : DataW.trod enc Tryd.prog W b0 sp hd n 2 (List.take (Tryd.prog.cellsOf 2) (List.drop 2 [c0, c1, c2])) = xs[2]? := hfs 2 _ rfl
  have k2 : Tryd.prog.cellsOf 2 = 1 := by kernel_rfl
  rw [k2] at f2
  simp only [List.drop, List.take] at f2
  obtain ⟨y2, hy2⟩ : ∃ y, xs[2]? = some y := ⟨xs[2]'(by rw [hxs]; decide), List.getElem?_eq_getElem _⟩
  rw [hy2] at f2
  obtain ⟨x2, e2, _, w2⟩ := DataW.trod_int Tryd.underlying2 f2
  have g2 : c2 = .int .i64 x2 := by simpa using e2
  subst g0 g1 g2
  exact ⟨⟨x0, x1, x2⟩, rfl⟩

theorem t_SourceS {sl : Nat} {c0 : Value} (hf : DataW.trod enc Tryd.prog W sl sp hd fuel 22 [c0] = some x) : ∃ l : List Src, RawL Src.cells 3 W c0 l := by
  have hC : Tryd.prog.cellsOf 74 = 3 := by kernel_rfl
  rcases Go.Deep.open_slice Tryd.underlying22 hf with ⟨hcs, _⟩ | ⟨a, n, c, m, k, D, Pl, hcs, hb, hl, hm, hmm, _, hx⟩
  · obtain rfl : c0 = .slice none 0 0 := by simpa using hcs
    exact ⟨[], ⟨none, 0, rfl, Nat.zero_le _, .inl rfl⟩⟩
  · obtain rfl : c0 = .slice (some a) n c := by simpa using hcs
    have hlm : n ≤ m := by rw [hmm]; split <;> omega
    obtain ⟨F, hF⟩ := Go.Deep.choose_lt (α := Src) (n := n) (p := fun i e => (∀ j u, e.cells[j]? = some u → W.cell? (a.add (i * 3 + j)) = some u)) (fun i hi => by
      obtain ⟨cs, h1, h2⟩ := hx i (by omega)
      rw [hC] at h1
      obtain ⟨e, rfl⟩ := c_Source h2
      obtain ⟨_, _, h3⟩ := World.cells?_some h1
      exact ⟨e, fun j u hu => by
        have hj : j < 3 := by have := (List.getElem?_eq_some_iff.1 hu).1; rw [Src.len] at this; exact this
        rw [← hu, ← h3 j hj, Go.Deep.add_add]⟩)
    have hlen : ((List.range n).map F).length = n := by simp
    refine ⟨(List.range n).map F, ⟨some a, c, by rw [hlen], by rw [hlen]; omega, ?_⟩⟩
    rcases Nat.eq_zero_or_pos n with rfl | h0
    · exact .inl rfl
    · obtain ⟨b, o, spot⟩ := a
      have hc0 := (hF 0 h0) 0 _ rfl
      have hspot : spot = none := by simpa [Addr.add] using World.cell?_spot hc0
      subst hspot
      have hc00 := World.block_lt_of_cell? W _ hc0
      refine .inr ⟨b, o, rfl, by simpa [Addr.add] using hc00, fun k' e' j u hk hu => ?_⟩
      have hk' : k' < n := by have := (List.getElem?_eq_some_iff.1 hk).1; rw [hlen] at this; exact this
      have he : e' = F k' := by simp [hk'] at hk; exact hk.symm
      subst he
      have := (hF k' hk') j u hu
      rw [show o + k' * 3 + j = o + (k' * 3 + j) by omega]
      have e2 : (⟨b, o, none⟩ : Addr).add (k' * 3 + j) = ⟨b, o + (k' * 3 + j), none⟩ := by unfold Addr.add; split <;> simp_all
      rw [e2] at this
      exact this
theorem o_SourceS (e : Value.okWide Tryd.prog W .any base 22 v) (h : DataW.Trod enc Tryd.prog W 0 sp hd 22 v d p) : ∃ l : List Src, RawL Src.cells 3 W v l := by
  obtain ⟨A, n, c, rfl⟩ := okWide_slice Tryd.underlying22 e
  obtain ⟨fuel, hf⟩ := h
  exact t_SourceS (c0 := .slice A n c) (by simpa [Value.cells] using hf)
theorem o_RSourceS (e : Value.okWide Tryd.prog W .any base 22 v) (h : DataW.Trod enc Tryd.prog W 0 sp hd 22 v d p) : ∃ l : List Src, RSourceS.raw W v l := by
  obtain ⟨l, h1⟩ := o_SourceS e h
  exact ⟨l, h1, fun _ _ => trivial⟩
end
end Go.Proofs.YtiignbomjjfckaaDoor
