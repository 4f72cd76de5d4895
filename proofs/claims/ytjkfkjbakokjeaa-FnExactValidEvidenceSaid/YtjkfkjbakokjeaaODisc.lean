/- Opening a slice of discs that came in. -/
import Derived.Test.YtjkfkjbakokjeaaOSector
import Derived.Test.YtjkfkjbakokjeaaHDisc
namespace Go.Proofs.Ytjkfkjbakokjeaa
set_option linter.unusedVariables false
open Go.ChangeShapes Go.WideShapes Go.ChangeAt Go.RowKit
set_option maxRecDepth 20000

section
variable {H : Type} {enc : TypeId × Value → H} {W : World} {base : Nat} {v : Value} {d : DataW H} {p : List MemPlace} {fuel : Nat} {sp : Nat → Bool} {hd : Bool} {b0 : Nat} {cs : List Value} {x : DataW H × List MemPlace}
theorem c_Disc (h : DataW.trod enc Try.prog W b0 sp hd fuel 40 cs = some x) : ∃ (e : Dsc) (bv : Value), cs = e.ints ++ [bv] ∧ SecIn W bv e.secs := by
  obtain ⟨xs, n, rfl, _, hlen, hxs, hfs⟩ := DataW.trod_struct Try.underlying40 h
  have hC : Try.prog.cellsOf 40 = 5 := by kernel_rfl
  rw [hC] at hlen
  obtain ⟨c0, c1, c2, c3, c4, rfl⟩ : ∃ c0 c1 c2 c3 c4, cs = [c0, c1, c2, c3, c4] := by
    match cs, hlen with
    | [c0, c1, c2, c3, c4], _ => exact ⟨_, _, _, _, _, rfl⟩
  have k1 : Try.prog.cellsOf 2 = 1 := by kernel_rfl
  have f0 : DataW.trod enc Try.prog W b0 sp hd n 2 (List.take (Try.prog.cellsOf 2) (List.drop 0 [c0, c1, c2, c3, c4])) = xs[0]? := hfs 0 _ rfl
  rw [k1] at f0
  simp only [List.drop, List.take] at f0
  obtain ⟨y0, hy0⟩ : ∃ y, xs[0]? = some y := ⟨xs[0]'(by rw [hxs]; decide), List.getElem?_eq_getElem _⟩
  rw [hy0] at f0
  obtain ⟨x0, e0, _, _⟩ := DataW.trod_int Try.underlying2 f0
  have g0 : c0 = .int .i64 x0 := by simpa using e0
  have f1 : DataW.trod enc Try.prog W b0 sp hd n 2 (List.take (Try.prog.cellsOf 2) (List.drop 1 [c0, c1, c2, c3, c4])) = xs[1]? := hfs 1 _ rfl
  rw [k1] at f1
  simp only [List.drop, List.take] at f1
  obtain ⟨y1, hy1⟩ : ∃ y, xs[1]? = some y := ⟨xs[1]'(by rw [hxs]; decide), List.getElem?_eq_getElem _⟩
  rw [hy1] at f1
  obtain ⟨x1, e1, _, _⟩ := DataW.trod_int Try.underlying2 f1
  have g1 : c1 = .int .i64 x1 := by simpa using e1
  have f2 : DataW.trod enc Try.prog W b0 sp hd n 2 (List.take (Try.prog.cellsOf 2) (List.drop 2 [c0, c1, c2, c3, c4])) = xs[2]? := hfs 2 _ rfl
  rw [k1] at f2
  simp only [List.drop, List.take] at f2
  obtain ⟨y2, hy2⟩ : ∃ y, xs[2]? = some y := ⟨xs[2]'(by rw [hxs]; decide), List.getElem?_eq_getElem _⟩
  rw [hy2] at f2
  obtain ⟨x2, e2, _, _⟩ := DataW.trod_int Try.underlying2 f2
  have g2 : c2 = .int .i64 x2 := by simpa using e2
  have f3 : DataW.trod enc Try.prog W b0 sp hd n 2 (List.take (Try.prog.cellsOf 2) (List.drop 3 [c0, c1, c2, c3, c4])) = xs[3]? := hfs 3 _ rfl
  rw [k1] at f3
  simp only [List.drop, List.take] at f3
  obtain ⟨y3, hy3⟩ : ∃ y, xs[3]? = some y := ⟨xs[3]'(by rw [hxs]; decide), List.getElem?_eq_getElem _⟩
  rw [hy3] at f3
  obtain ⟨x3, e3, _, _⟩ := DataW.trod_int Try.underlying2 f3
  have g3 : c3 = .int .i64 x3 := by simpa using e3
  have f4 : DataW.trod enc Try.prog W b0 sp hd n 38 (List.take (Try.prog.cellsOf 38) (List.drop 4 [c0, c1, c2, c3, c4])) = xs[4]? := hfs 4 _ rfl
  have k4 : Try.prog.cellsOf 38 = 1 := by kernel_rfl
  rw [k4] at f4
  simp only [List.drop, List.take] at f4
  obtain ⟨y4, hy4⟩ : ∃ y, xs[4]? = some y := ⟨xs[4]'(by rw [hxs]; decide), List.getElem?_eq_getElem _⟩
  rw [hy4] at f4
  obtain ⟨l, hl, hs⟩ := t_SectorS f4
  subst g0 g1 g2 g3
  exact ⟨⟨x0, x1, x2, x3, l⟩, c4, rfl, hl, hs⟩
theorem o_DscS (e : Value.okWide Try.prog W .any base 51 v) (h : DataW.Trod enc Try.prog W 0 sp hd 51 v d p) : ∃ l : List Dsc, DscIn W v l := by
  obtain ⟨A, n, c, rfl⟩ := okWide_slice Try.underlying51 e
  obtain ⟨fuel, hf⟩ := h
  have hC : Try.prog.cellsOf 40 = 5 := by kernel_rfl
  rcases Go.Deep.open_slice Try.underlying51 hf with ⟨hcs, _⟩ | ⟨a, len, cap, m, k, D, Pl, hcs, hb, hl, hm, hmm, _, hx⟩
  · simp [Value.cells] at hcs
    obtain ⟨rfl, rfl, rfl⟩ := hcs
    exact ⟨[], ⟨none, 0, rfl, Nat.zero_le _, .inl rfl⟩⟩
  · simp [Value.cells] at hcs
    obtain ⟨rfl, rfl, rfl⟩ := hcs
    have hlm : n ≤ m := by rw [hmm]; split <;> omega
    obtain ⟨F, hF⟩ := Go.Deep.choose_lt (α := Dsc) (n := n) (p := fun i e => ∃ bv, SecIn W bv e.secs ∧ ∀ (j : Nat) (u : Value), (e.ints ++ [bv])[j]? = some u → W.cell? (a.add (i * 5 + j)) = some u) (fun i hi => by
      obtain ⟨cs, h1, h2⟩ := hx i (by omega)
      rw [hC] at h1
      obtain ⟨e, bv, rfl, hs⟩ := c_Disc h2
      obtain ⟨_, _, h3⟩ := World.cells?_some h1
      exact ⟨e, bv, hs, fun j u hu => by
        have hj : j < 5 := by have := (List.getElem?_eq_some_iff.1 hu).1; simpa [Dsc.ints] using this
        rw [← hu, ← h3 j hj, Go.Deep.add_add]⟩)
    have hlen : ((List.range n).map F).length = n := by simp
    refine ⟨(List.range n).map F, ⟨some a, c, by rw [hlen], by rw [hlen]; omega, ?_⟩⟩
    rcases Nat.eq_zero_or_pos n with rfl | h0
    · exact .inl rfl
    · obtain ⟨b, o, spot⟩ := a
      obtain ⟨bv0, _, hc0'⟩ := hF 0 h0
      have hc0 := hc0' 0 _ rfl
      have hspot : spot = none := by simpa [Addr.add] using World.cell?_spot hc0
      subst hspot
      have hc00 := World.block_lt_of_cell? W _ hc0
      refine .inr ⟨b, o, rfl, by simpa [Addr.add] using hc00, fun k' e' hk => ?_⟩
      have hk' : k' < n := by have := (List.getElem?_eq_some_iff.1 hk).1; rw [hlen] at this; exact this
      have he : e' = F k' := by simp [hk'] at hk; exact hk.symm
      subst he
      have e2 : ∀ j, (⟨b, o, none⟩ : Addr).add j = ⟨b, o + j, none⟩ := fun j => by unfold Addr.add; split <;> simp_all
      obtain ⟨bv, t0, t1⟩ := hF k' hk'
      refine ⟨bv, t0, fun j u hu => ?_⟩
      have := t1 j u hu
      rw [e2] at this
      rw [Nat.add_assoc]; exact this
end
end Go.Proofs.Ytjkfkjbakokjeaa
