/- Opening a slice of equations that came in. -/
import Derived.Test.YthchdbjgjnpooaaDoorOInt64
import Derived.Test.YthchdbjgjnpooaaDoorHEqn
namespace Go.Proofs.YthchdbjgjnpooaaDoor
set_option linter.unusedVariables false
set_option linter.unusedSimpArgs false
open Go.ChangeShapes Go.WideShapes Go.ChangeAt Go.RowKit
set_option maxRecDepth 20000

instance : Inhabited Eqn := ⟨⟨[], 0⟩⟩
section
variable {H : Type} {enc : TypeId × Value → H} {W : World} {base : Nat} {v : Value} {d : DataW H} {p : List MemPlace} {fuel : Nat} {sp : Nat → Bool} {hd : Bool} {b0 : Nat} {cs : List Value} {x : DataW H × List MemPlace}
theorem t_Int64S {sl : Nat} {c0 : Value} (hf : DataW.trod enc Tryd.prog W sl sp hd fuel 28 [c0] = some x) : ∃ l : List Int, RawL icell 1 W c0 l := by
  have hC : Tryd.prog.cellsOf 2 = 1 := by kernel_rfl
  rcases Go.Deep.open_slice Tryd.underlying28 hf with ⟨hcs, _⟩ | ⟨a, n, c, m, k, D, Pl, hcs, hb, hl, hm, hmm, _, hx⟩
  · obtain rfl : c0 = .slice none 0 0 := by simpa using hcs
    exact ⟨[], ⟨none, 0, rfl, Nat.zero_le _, .inl rfl⟩⟩
  · obtain rfl : c0 = .slice (some a) n c := by simpa using hcs
    have hlm : n ≤ m := by rw [hmm]; split <;> omega
    obtain ⟨F, hF⟩ := Go.Deep.choose_lt (α := Int) (n := n) (p := fun i e => (∀ j u, (icell e)[j]? = some u → W.cell? (a.add (i * 1 + j)) = some u)) (fun i hi => by
      obtain ⟨cs, h1, h2⟩ := hx i (by omega)
      rw [hC] at h1
      obtain ⟨e, rfl, _⟩ := c_Int64 h2
      obtain ⟨_, _, h3⟩ := World.cells?_some h1
      exact ⟨e, fun j u hu => by
        have hj : j < 1 := by have := (List.getElem?_eq_some_iff.1 hu).1; rw [icell_len] at this; exact this
        rw [← hu, ← h3 j hj, Go.Deep.add_add]⟩)
    have hlen : ((List.range n).map F).length = n := by simp
    refine ⟨(List.range n).map F, ⟨some a, c, by rw [hlen], by rw [hlen]; omega, ?_⟩⟩
    rcases Nat.eq_zero_or_pos n with rfl | h0
    · exact .inl rfl
    · obtain ⟨b, o, spot⟩ := a
      have hc0 := (hF 0 h0) 0 _ rfl
      have hspot : spot = none := by simpa [Addr.add] using World.cell?_spot hc0
      subst hspot
      have hc00 := World.block_lt_of_cell? W _ hc0
      refine .inr ⟨b, o, rfl, by simpa [Addr.add] using hc00, fun k' e' j u hk hu => ?_⟩
      have hk' : k' < n := by have := (List.getElem?_eq_some_iff.1 hk).1; rw [hlen] at this; exact this
      have he : e' = F k' := by simp [hk'] at hk; exact hk.symm
      subst he
      have := (hF k' hk') j u hu
      rw [show o + k' * 1 + j = o + (k' * 1 + j) by omega]
      have e2 : (⟨b, o, none⟩ : Addr).add (k' * 1 + j) = ⟨b, o + (k' * 1 + j), none⟩ := by unfold Addr.add; split <;> simp_all
      rw [e2] at this
      exact this
theorem c_Eqn (h : DataW.trod enc Tryd.prog W b0 sp hd fuel 58 cs = some x) : ∃ bv l r, cs = [bv, .int .i64 r] ∧ RawL icell 1 W bv l := by
  obtain ⟨xs, n, rfl, _, hlen, hxs, hfs⟩ := DataW.trod_struct Tryd.underlying58 h
  have hC : Tryd.prog.cellsOf 58 = 2 := by kernel_rfl
  rw [hC] at hlen
  obtain ⟨c0, c1, rfl⟩ : ∃ c0 c1, cs = [c0, c1] := by
    match cs, hlen with
    | [c0, c1], _ => exact ⟨_, _, rfl⟩
  have f0 : DataW.trod enc Tryd.prog W b0 sp hd n 28 (List.take (Tryd.prog.cellsOf 28) (List.drop 0 [c0, c1])) = xs[0]? := hfs 0 _ rfl
  have k0 : Tryd.prog.cellsOf 28 = 1 := by kernel_rfl
  rw [k0] at f0
  simp only [List.drop, List.take] at f0
  obtain ⟨y0, hy0⟩ : ∃ y, xs[0]? = some y := ⟨xs[0]'(by rw [hxs]; decide), List.getElem?_eq_getElem _⟩
  rw [hy0] at f0
  obtain ⟨l, hl⟩ := t_Int64S f0
  have f1 : DataW.trod enc Tryd.prog W b0 sp hd n 2 (List.take (Tryd.prog.cellsOf 2) (List.drop 1 [c0, c1])) = xs[1]? := hfs 1 _ rfl
  have k1 : Tryd.prog.cellsOf 2 = 1 := by kernel_rfl
  rw [k1] at f1
  simp only [List.drop, List.take] at f1
  obtain ⟨y1, hy1⟩ : ∃ y, xs[1]? = some y := ⟨xs[1]'(by rw [hxs]; decide), List.getElem?_eq_getElem _⟩
  rw [hy1] at f1
  obtain ⟨x1, e1, _, w1⟩ := DataW.trod_int Tryd.underlying2 f1
  have g1 : c1 = .int .i64 x1 := by simpa using e1
  subst g1
  exact ⟨c0, l, x1, rfl, hl⟩
theorem o_EqS (e : Value.okWide Tryd.prog W .any base 35 v) (h : DataW.Trod enc Tryd.prog W 0 sp hd 35 v d p) : ∃ l : List Eqn, EqIn W v l := by
  obtain ⟨A, n, c, rfl⟩ := okWide_slice Tryd.underlying35 e
  obtain ⟨fuel, hf⟩ := h
  have hC : Tryd.prog.cellsOf 58 = 2 := by kernel_rfl
  rcases Go.Deep.open_slice Tryd.underlying35 hf with ⟨hcs, _⟩ | ⟨a, len, cap, m, k, D, Pl, hcs, hb, hl, hm, hmm, _, hx⟩
  · simp [Value.cells] at hcs
    obtain ⟨rfl, rfl, rfl⟩ := hcs
    exact ⟨[], ⟨none, 0, rfl, Nat.zero_le _, .inl rfl⟩⟩
  · simp [Value.cells] at hcs
    obtain ⟨rfl, rfl, rfl⟩ := hcs
    have hlm : n ≤ m := by rw [hmm]; split <;> omega
    obtain ⟨F, hF⟩ := Go.Deep.choose_lt (α := Eqn) (n := n) (p := fun i e => ∃ bv, W.cell? (a.add (i * 2)) = some bv ∧ RawL icell 1 W bv e.bits ∧ W.cell? (a.add (i * 2 + 1)) = some (.int .i64 e.right)) (fun i hi => by
      obtain ⟨cs, h1, h2⟩ := hx i (by omega)
      rw [hC] at h1
      obtain ⟨bv, l, r, rfl, hl⟩ := c_Eqn h2
      obtain ⟨_, _, h3⟩ := World.cells?_some h1
      have t0 := h3 0 (by omega)
      have t1 := h3 1 (by omega)
      rw [Go.Deep.add_add] at t0 t1
      exact ⟨⟨l, r⟩, bv, by simpa using t0, hl, by simpa using t1⟩)
    have hlen : ((List.range n).map F).length = n := by simp
    refine ⟨(List.range n).map F, ⟨some a, c, by rw [hlen], by rw [hlen]; omega, ?_⟩⟩
    rcases Nat.eq_zero_or_pos n with rfl | h0
    · exact .inl rfl
    · obtain ⟨b, o, spot⟩ := a
      obtain ⟨bv0, hc0, _, _⟩ := hF 0 h0
      have hspot : spot = none := by simpa [Addr.add] using World.cell?_spot hc0
      subst hspot
      have hc00 := World.block_lt_of_cell? W _ hc0
      refine .inr ⟨b, o, rfl, by simpa [Addr.add] using hc00, fun k' e' hk => ?_⟩
      have hk' : k' < n := by have := (List.getElem?_eq_some_iff.1 hk).1; rw [hlen] at this; exact this
      have he : e' = F k' := by simp [hk'] at hk; exact hk.symm
      subst he
      have e2 : ∀ j, (⟨b, o, none⟩ : Addr).add j = ⟨b, o + j, none⟩ := fun j => by unfold Addr.add; split <;> simp_all
      obtain ⟨bv, t0, t1, t2⟩ := hF k' hk'
      rw [e2] at t0 t2
      exact ⟨bv, t0, t1, by rw [Nat.add_assoc]; exact t2⟩
end
end Go.Proofs.YthchdbjgjnpooaaDoor
