/- Opening a disc or a merge that came in. -/
import Derived.Test.YtignjjkldmninaaODisc
import Derived.Test.YtignjjkldmninaaOInt64
import Derived.Test.YtignjjkldmninaaHMerge
namespace Go.Proofs.Ytignjjkldmninaa
set_option linter.unusedVariables false
open Go.ChangeShapes Go.WideShapes Go.ChangeAt Go.RowKit
set_option maxRecDepth 20000
section
variable {H : Type} {enc : TypeId × Value → H} {W : World} {base : Nat} {v : Value} {d : DataW H} {p : List MemPlace} {fuel : Nat} {sp : Nat → Bool} {hd : Bool} {b0 : Nat} {cs : List Value} {x : DataW H × List MemPlace}
theorem t_Int64S {sl : Nat} {c0 : Value} (hf : DataW.trod enc Try.prog W sl sp hd fuel 32 [c0] = some x) : ∃ l : List Int, RawL icell 1 W c0 l := by
  have hC : Try.prog.cellsOf 2 = 1 := by kernel_rfl
  rcases Go.Deep.open_slice Try.underlying32 hf with ⟨hcs, _⟩ | ⟨a, n, c, m, k, D, Pl, hcs, hb, hl, hm, hmm, _, hx⟩
  · obtain rfl : c0 = .slice none 0 0 := by simpa using hcs
    exact ⟨[], ⟨none, 0, rfl, Nat.zero_le _, .inl rfl⟩⟩
  · obtain rfl : c0 = .slice (some a) n c := by simpa using hcs
    have hlm : n ≤ m := by rw [hmm]; split <;> omega
    obtain ⟨F, hF⟩ := Go.Deep.choose_lt (α := Int) (n := n) (p := fun i e => (∀ j u, (icell e)[j]? = some u → W.cell? (a.add (i * 1 + j)) = some u) ∧ True) (fun i hi => by
      obtain ⟨cs, h1, h2⟩ := hx i (by omega)
      rw [hC] at h1
      obtain ⟨e, rfl, hv⟩ := c_Int64 h2
      obtain ⟨_, _, h3⟩ := World.cells?_some h1
      exact ⟨e, ⟨fun j u hu => by
        have hj : j < 1 := by have := (List.getElem?_eq_some_iff.1 hu).1; rw [icell_len] at this; exact this
        rw [← hu, ← h3 j hj, Go.Deep.add_add], hv⟩⟩)
    have hlen : ((List.range n).map F).length = n := by simp
    refine ⟨(List.range n).map F, ⟨some a, c, by rw [hlen], by rw [hlen]; omega, ?_⟩⟩
    rcases Nat.eq_zero_or_pos n with rfl | h0
    · exact .inl rfl
    · obtain ⟨b, o, spot⟩ := a
      have hc0 := (hF 0 h0).1 0 _ rfl
      have hspot : spot = none := by simpa [Addr.add] using World.cell?_spot hc0
      subst hspot
      have hc00 := World.block_lt_of_cell? W _ hc0
      refine .inr ⟨b, o, rfl, by simpa [Addr.add] using hc00, fun k' e' j u hk hu => ?_⟩
      have hk' : k' < n := by have := (List.getElem?_eq_some_iff.1 hk).1; rw [hlen] at this; exact this
      have he : e' = F k' := by simp [hk'] at hk; exact hk.symm
      subst he
      have := (hF k' hk').1 j u hu
      rw [show o + k' * 1 + j = o + (k' * 1 + j) by omega]
      have e2 : (⟨b, o, none⟩ : Addr).add (k' * 1 + j) = ⟨b, o + (k' * 1 + j), none⟩ := by unfold Addr.add; split <;> simp_all
      rw [e2] at this
      exact this
theorem o_Disc (e : Value.okWide Try.prog W .any base 31 v) (h : DataW.Trod enc Try.prog W 0 sp hd 31 v d p) : ∃ (e : Dsc) (bv : Value), v = dscV e bv ∧ SecIn W bv e.secs := by
  obtain ⟨cs, rfl, hsz⟩ := okWide_struct Try.underlying31 e
  obtain ⟨fuel, hf⟩ := h
  obtain ⟨e, bv, hc, hs⟩ := c_Disc hf
  refine ⟨e, bv, ?_, hs⟩
  have : cs.toList = e.ints ++ [bv] := by simpa [Value.cells] using hc
  obtain ⟨l⟩ := cs
  simp at this
  subst this
  rfl
theorem o_Merge (e : Value.okWide Try.prog W .any base 34 v) (h : DataW.Trod enc Try.prog W 0 sp hd 34 v d p) : ∃ (m : Mrg) (bv fv av : Value), v = mrgV m bv fv av ∧ MrgIn W m bv fv av := by
  obtain ⟨cs, rfl, hsz⟩ := okWide_struct Try.underlying34 e
  have hC : Try.prog.cellsOf 34 = 7 := by kernel_rfl
  rw [hC] at hsz
  obtain ⟨c0, c1, c2, c3, c4, c5, c6, rfl⟩ : ∃ c0 c1 c2 c3 c4 c5 c6, cs = #[c0, c1, c2, c3, c4, c5, c6] := by
    obtain ⟨l⟩ := cs
    match l, hsz with
    | [c0, c1, c2, c3, c4, c5, c6], _ => exact ⟨_, _, _, _, _, _, _, rfl⟩
  obtain ⟨fuel, hf⟩ := h
  obtain ⟨xs, n, hx, _, hlen, hxs, hfs⟩ := DataW.trod_struct Try.underlying34 hf
  have kD : Try.prog.cellsOf 31 = 5 := by kernel_rfl
  have kI : Try.prog.cellsOf 32 = 1 := by kernel_rfl
  have g : ∀ i, i < 3 → ∃ y, xs[i]? = some y := fun i hi => ⟨xs[i]'(by rw [hxs]; exact hi), List.getElem?_eq_getElem _⟩
  obtain ⟨y0, hy0⟩ := g 0 (by omega)
  obtain ⟨y1, hy1⟩ := g 1 (by omega)
  obtain ⟨y2, hy2⟩ := g 2 (by omega)
  have f0 : DataW.trod enc Try.prog W 0 sp hd n 31 (List.take (Try.prog.cellsOf 31) (List.drop 0 [c0, c1, c2, c3, c4, c5, c6])) = xs[0]? := hfs 0 _ rfl
  have f1 : DataW.trod enc Try.prog W 0 sp hd n 32 (List.take (Try.prog.cellsOf 32) (List.drop 5 [c0, c1, c2, c3, c4, c5, c6])) = xs[1]? := hfs 1 _ rfl
  have f2 : DataW.trod enc Try.prog W 0 sp hd n 32 (List.take (Try.prog.cellsOf 32) (List.drop 6 [c0, c1, c2, c3, c4, c5, c6])) = xs[2]? := hfs 2 _ rfl
  rw [kD, hy0] at f0
  rw [kI, hy1] at f1
  rw [kI, hy2] at f2
  simp only [List.drop, List.take] at f0 f1 f2
  obtain ⟨e1, bv, he, hs⟩ := c_Disc f0
  obtain ⟨l1, h1⟩ := t_Int64S f1
  obtain ⟨l2, h2⟩ := t_Int64S f2
  simp [Dsc.ints] at he
  obtain ⟨rfl, rfl, rfl, rfl, rfl⟩ := he
  exact ⟨⟨e1, l1, l2⟩, _, _, _, rfl, hs, h1, h2⟩
end
end Go.Proofs.Ytignjjkldmninaa
