/- Opening evidence that came in. Printed by gen_oevd.py. -/
import Derived.Test.YtjkfkjbakokjeaaODisc
import Derived.Test.YtjkfkjbakokjeaaOInt64
import Derived.Test.YtjkfkjbakokjeaaOString
import Derived.Test.YtjkfkjbakokjeaaHEvd
namespace Go.Proofs.Ytjkfkjbakokjeaa
set_option linter.unusedVariables false
open Go.ChangeShapes Go.WideShapes Go.ChangeAt Go.RowKit
set_option maxRecDepth 20000
section
variable {H : Type} {enc : TypeId × Value → H} {W : World} {base : Nat} {v : Value} {d : DataW H} {p : List MemPlace} {fuel : Nat} {sp : Nat → Bool} {hd : Bool} {b0 : Nat} {cs : List Value} {x : DataW H × List MemPlace}
theorem t_Int64S {sl : Nat} {c0 : Value} (hf : DataW.trod enc Try.prog W sl sp hd fuel 33 [c0] = some x) : ∃ l : List Int, RawL icell 1 W c0 l := by
  have hC : Try.prog.cellsOf 2 = 1 := by kernel_rfl
  rcases Go.Deep.open_slice Try.underlying33 hf with ⟨hcs, _⟩ | ⟨a, n, c, m, k, D, Pl, hcs, hb, hl, hm, hmm, _, hx⟩
  · obtain rfl : c0 = .slice none 0 0 := by simpa using hcs
    exact ⟨[], ⟨none, 0, rfl, Nat.zero_le _, .inl rfl⟩⟩
  · obtain rfl : c0 = .slice (some a) n c := by simpa using hcs
    have hlm : n ≤ m := by rw [hmm]; split <;> omega
    obtain ⟨F, hF⟩ := Go.Deep.choose_lt (α := Int) (n := n) (p := fun i e => (∀ j u, (icell e)[j]? = some u → W.cell? (a.add (i * 1 + j)) = some u) ∧ True) (fun i hi => by
      obtain ⟨cs, h1, h2⟩ := hx i (by omega)
      rw [hC] at h1
      obtain ⟨e, rfl, hv⟩ := c_Int64 h2
      obtain ⟨_, _, h3⟩ := World.cells?_some h1
      exact ⟨e, ⟨fun j u hu => by
        have hj : j < 1 := by have := (List.getElem?_eq_some_iff.1 hu).1; rw [icell_len] at this; exact this
        rw [← hu, ← h3 j hj, Go.Deep.add_add], hv⟩⟩)
    have hlen : ((List.range n).map F).length = n := by simp
    refine ⟨(List.range n).map F, ⟨some a, c, by rw [hlen], by rw [hlen]; omega, ?_⟩⟩
    rcases Nat.eq_zero_or_pos n with rfl | h0
    · exact .inl rfl
    · obtain ⟨b, o, spot⟩ := a
      have hc0 := (hF 0 h0).1 0 _ rfl
      have hspot : spot = none := by simpa [Addr.add] using World.cell?_spot hc0
      subst hspot
      have hc00 := World.block_lt_of_cell? W _ hc0
      refine .inr ⟨b, o, rfl, by simpa [Addr.add] using hc00, fun k' e' j u hk hu => ?_⟩
      have hk' : k' < n := by have := (List.getElem?_eq_some_iff.1 hk).1; rw [hlen] at this; exact this
      have he : e' = F k' := by simp [hk'] at hk; exact hk.symm
      subst he
      have := (hF k' hk').1 j u hu
      rw [show o + k' * 1 + j = o + (k' * 1 + j) by omega]
      have e2 : (⟨b, o, none⟩ : Addr).add (k' * 1 + j) = ⟨b, o + (k' * 1 + j), none⟩ := by unfold Addr.add; split <;> simp_all
      rw [e2] at this
      exact this
theorem t_StringS {sl : Nat} {c0 : Value} (hf : DataW.trod enc Try.prog W sl sp hd fuel 52 [c0] = some x) : ∃ l : List ByteArray, StrIn W c0 l := by
  have hC : Try.prog.cellsOf 9 = 1 := by kernel_rfl
  rcases Go.Deep.open_slice Try.underlying52 hf with ⟨hcs, _⟩ | ⟨a, n, c, m, k, D, Pl, hcs, hb, hl, hm, hmm, _, hx⟩
  · obtain rfl : c0 = .slice none 0 0 := by simpa using hcs
    exact ⟨[], ⟨none, 0, rfl, Nat.zero_le _, .inl rfl⟩, by simp⟩
  · obtain rfl : c0 = .slice (some a) n c := by simpa using hcs
    have hlm : n ≤ m := by rw [hmm]; split <;> omega
    obtain ⟨F, hF⟩ := Go.Deep.choose_lt (α := ByteArray) (n := n) (p := fun i e => (∀ j u, (scell e)[j]? = some u → W.cell? (a.add (i * 1 + j)) = some u) ∧ e.size ≤ maxLen) (fun i hi => by
      obtain ⟨cs, h1, h2⟩ := hx i (by omega)
      rw [hC] at h1
      obtain ⟨e, rfl, hv⟩ := c_String h2
      obtain ⟨_, _, h3⟩ := World.cells?_some h1
      exact ⟨e, ⟨fun j u hu => by
        have hj : j < 1 := by have := (List.getElem?_eq_some_iff.1 hu).1; rw [scell_len] at this; exact this
        rw [← hu, ← h3 j hj, Go.Deep.add_add], hv⟩⟩)
    have hlen : ((List.range n).map F).length = n := by simp
    refine ⟨(List.range n).map F, ⟨some a, c, by rw [hlen], by rw [hlen]; omega, ?_⟩, fun e he => by
      obtain ⟨i, hi, rfl⟩ := List.mem_map.1 he
      exact (hF i (List.mem_range.1 hi)).2⟩
    rcases Nat.eq_zero_or_pos n with rfl | h0
    · exact .inl rfl
    · obtain ⟨b, o, spot⟩ := a
      have hc0 := (hF 0 h0).1 0 _ rfl
      have hspot : spot = none := by simpa [Addr.add] using World.cell?_spot hc0
      subst hspot
      have hc00 := World.block_lt_of_cell? W _ hc0
      refine .inr ⟨b, o, rfl, by simpa [Addr.add] using hc00, fun k' e' j u hk hu => ?_⟩
      have hk' : k' < n := by have := (List.getElem?_eq_some_iff.1 hk).1; rw [hlen] at this; exact this
      have he : e' = F k' := by simp [hk'] at hk; exact hk.symm
      subst he
      have := (hF k' hk').1 j u hu
      rw [show o + k' * 1 + j = o + (k' * 1 + j) by omega]
      have e2 : (⟨b, o, none⟩ : Addr).add (k' * 1 + j) = ⟨b, o + (k' * 1 + j), none⟩ := by unfold Addr.add; split <;> simp_all
      rw [e2] at this
      exact this
theorem t_DscS {sl : Nat} {c0 : Value} (hf : DataW.trod enc Try.prog W sl sp hd fuel 51 [c0] = some x) : ∃ l : List Dsc, DscIn W c0 l := by
  have hC : Try.prog.cellsOf 40 = 5 := by kernel_rfl
  rcases Go.Deep.open_slice Try.underlying51 hf with ⟨hcs, _⟩ | ⟨a, n, c, m, k, D, Pl, hcs, hb, hl, hm, hmm, _, hx⟩
  · obtain rfl : c0 = .slice none 0 0 := by simpa using hcs
    exact ⟨[], ⟨none, 0, rfl, Nat.zero_le _, .inl rfl⟩⟩
  · obtain rfl : c0 = .slice (some a) n c := by simpa using hcs
    have hlm : n ≤ m := by rw [hmm]; split <;> omega
    obtain ⟨F, hF⟩ := Go.Deep.choose_lt (α := Dsc) (n := n) (p := fun i e => ∃ bv, SecIn W bv e.secs ∧ ∀ (j : Nat) (u : Value), (e.ints ++ [bv])[j]? = some u → W.cell? (a.add (i * 5 + j)) = some u) (fun i hi => by
      obtain ⟨cs, h1, h2⟩ := hx i (by omega)
      rw [hC] at h1
      obtain ⟨e, bv, rfl, hs⟩ := c_Disc h2
      obtain ⟨_, _, h3⟩ := World.cells?_some h1
      exact ⟨e, bv, hs, fun j u hu => by
        have hj : j < 5 := by have := (List.getElem?_eq_some_iff.1 hu).1; simpa [Dsc.ints] using this
        rw [← hu, ← h3 j hj, Go.Deep.add_add]⟩)
    have hlen : ((List.range n).map F).length = n := by simp
    refine ⟨(List.range n).map F, ⟨some a, c, by rw [hlen], by rw [hlen]; omega, ?_⟩⟩
    rcases Nat.eq_zero_or_pos n with rfl | h0
    · exact .inl rfl
    · obtain ⟨b, o, spot⟩ := a
      obtain ⟨bv0, _, hc0'⟩ := hF 0 h0
      have hc0 := hc0' 0 _ rfl
      have hspot : spot = none := by simpa [Addr.add] using World.cell?_spot hc0
      subst hspot
      have hc00 := World.block_lt_of_cell? W _ hc0
      refine .inr ⟨b, o, rfl, by simpa [Addr.add] using hc00, fun k' e' hk => ?_⟩
      have hk' : k' < n := by have := (List.getElem?_eq_some_iff.1 hk).1; rw [hlen] at this; exact this
      have he : e' = F k' := by simp [hk'] at hk; exact hk.symm
      subst he
      have e2 : ∀ j, (⟨b, o, none⟩ : Addr).add j = ⟨b, o + j, none⟩ := fun j => by unfold Addr.add; split <;> simp_all
      obtain ⟨bv, t0, t1⟩ := hF k' hk'
      refine ⟨bv, t0, fun j u hu => ?_⟩
      have := t1 j u hu
      rw [e2] at this
      rw [Nat.add_assoc]; exact this
theorem o_Evd (e : Value.okWide Try.prog W .any base 54 v) (h : DataW.Trod enc Try.prog W 0 sp hd 54 v d p) : ∃ (m : Evd) (v0 v1 v2 v3 : Value), v = evV v0 v1 v2 v3 ∧ EvIn W m v0 v1 v2 v3 := by
  obtain ⟨cs, rfl, hsz⟩ := okWide_struct Try.underlying54 e
  have hC : Try.prog.cellsOf 54 = 4 := by kernel_rfl
  rw [hC] at hsz
  obtain ⟨c0, c1, c2, c3, rfl⟩ : ∃ c0 c1 c2 c3, cs = #[c0, c1, c2, c3] := by
    obtain ⟨l⟩ := cs
    match l, hsz with
    | [c0, c1, c2, c3], _ => exact ⟨_, _, _, _, rfl⟩
  obtain ⟨fuel, hf⟩ := h
  obtain ⟨xs, n, hx, _, hlen, hxs, hfs⟩ := DataW.trod_struct Try.underlying54 hf
  have kD : Try.prog.cellsOf 51 = 1 := by kernel_rfl
  have kI : Try.prog.cellsOf 33 = 1 := by kernel_rfl
  have kS : Try.prog.cellsOf 52 = 1 := by kernel_rfl
  have g : ∀ i, i < 4 → ∃ y, xs[i]? = some y := fun i hi => ⟨xs[i]'(by rw [hxs]; exact hi), List.getElem?_eq_getElem _⟩
  obtain ⟨y0, hy0⟩ := g 0 (by omega)
  obtain ⟨y1, hy1⟩ := g 1 (by omega)
  obtain ⟨y2, hy2⟩ := g 2 (by omega)
  obtain ⟨y3, hy3⟩ := g 3 (by omega)
  have f0 : DataW.trod enc Try.prog W 0 sp hd n 51 (List.take (Try.prog.cellsOf 51) (List.drop 0 [c0, c1, c2, c3])) = xs[0]? := hfs 0 _ rfl
  have f1 : DataW.trod enc Try.prog W 0 sp hd n 33 (List.take (Try.prog.cellsOf 33) (List.drop 1 [c0, c1, c2, c3])) = xs[1]? := hfs 1 _ rfl
  have f2 : DataW.trod enc Try.prog W 0 sp hd n 52 (List.take (Try.prog.cellsOf 52) (List.drop 2 [c0, c1, c2, c3])) = xs[2]? := hfs 2 _ rfl
  have f3 : DataW.trod enc Try.prog W 0 sp hd n 52 (List.take (Try.prog.cellsOf 52) (List.drop 3 [c0, c1, c2, c3])) = xs[3]? := hfs 3 _ rfl
  rw [kD, hy0] at f0
  rw [kI, hy1] at f1
  rw [kS, hy2] at f2
  rw [kS, hy3] at f3
  simp only [List.drop, List.take] at f0 f1 f2 f3
  obtain ⟨l0, h0⟩ := t_DscS f0
  obtain ⟨l1, h1⟩ := t_Int64S f1
  obtain ⟨l2, h2⟩ := t_StringS f2
  obtain ⟨l3, h3⟩ := t_StringS f3
  exact ⟨⟨l0, l1, l2, l3⟩, _, _, _, _, rfl, ⟨h0, h1, h2, h3⟩⟩
end
end Go.Proofs.Ytjkfkjbakokjeaa
