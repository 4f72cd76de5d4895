/- Opening a slice of discs that came in. Opening a slice of int64 that came in. Opening a slice of string that came in. Opening evidence that came in. Printed by gen_oevd.py. Opening one disc that came in. Opening a slice of laws.Source that came in. Printed by gen_flat.py. Opening a certificate that came in. -/
import Derived.Test.YtfcdienphillnaaGreatCm47
import Derived.Test.YtfcdienphillnaaGreatCk05
import Derived.Test.YtfcdienphillnaaGreatCk08
import Derived.Test.YtfcdienphillnaaGreatCk09
import Derived.Test.YtfcdienphillnaaGreatCk02
namespace Go.Proofs.YtfcdienphillnaaGreat
set_option linter.unusedVariables false
set_option linter.unusedSimpArgs false
open Go.ChangeShapes Go.WideShapes Go.ChangeAt Go.RowKit
set_option maxRecDepth 20000

section
variable {H : Type} {enc : TypeId × Value → H} {W : World} {base : Nat} {v : Value} {d : DataW H} {p : List MemPlace} {fuel : Nat} {sp : Nat → Bool} {hd : Bool} {b0 : Nat} {cs : List Value} {x : DataW H × List MemPlace}
theorem c_Disc (h : DataW.trod enc Tryz.prog W b0 sp hd fuel 29 cs = some x) : ∃ (e : Dsc) (bv : Value), cs = e.ints ++ [bv] ∧ SecIn W bv e.secs := by
  obtain ⟨xs, n, rfl, _, hlen, hxs, hfs⟩ := DataW.trod_struct Tryz.underlying29 h
  have hC : Tryz.prog.cellsOf 29 = 5 := by kernel_rfl
  rw [hC] at hlen
  obtain ⟨c0, c1, c2, c3, c4, rfl⟩ : ∃ c0 c1 c2 c3 c4, cs = [c0, c1, c2, c3, c4] := by
    match cs, hlen with
    | [c0, c1, c2, c3, c4], _ => exact ⟨_, _, _, _, _, rfl⟩
  have k1 : Tryz.prog.cellsOf 2 = 1 := by kernel_rfl
  have f0 : DataW.trod enc Tryz.prog W b0 sp hd n 2 (List.take (Tryz.prog.cellsOf 2) (List.drop 0 [c0, c1, c2, c3, c4])) = xs[0]? := hfs 0 _ rfl
  rw [k1] at f0
  simp only [List.drop, List.take] at f0
  obtain ⟨y0, hy0⟩ : ∃ y, xs[0]? = some y := ⟨xs[0]'(by rw [hxs]; decide), List.getElem?_eq_getElem _⟩
  rw [hy0] at f0
  obtain ⟨x0, e0, _, _⟩ := DataW.trod_int Tryz.underlying2 f0
  have g0 : c0 = .int .i64 x0 := by simpa using e0
  have f1 : DataW.trod enc Tryz.prog W b0 sp hd n 2 (List.take (Tryz.prog.cellsOf 2) (List.drop 1 [c0, c1, c2, c3, c4])) = xs[1]? := hfs 1 _ rfl
  rw [k1] at f1
  simp only [List.drop, List.take] at f1
  obtain ⟨y1, hy1⟩ : ∃ y, xs[1]? = some y := ⟨xs[1]'(by rw [hxs]; decide), List.getElem?_eq_getElem _⟩
  rw [hy1] at f1
  obtain ⟨x1, e1, _, _⟩ := DataW.trod_int Tryz.underlying2 f1
  have g1 : c1 = .int .i64 x1 := by simpa using e1
  have f2 : DataW.trod enc Tryz.prog W b0 sp hd n 2 (List.take (Tryz.prog.cellsOf 2) (List.drop 2 [c0, c1, c2, c3, c4])) = xs[2]? := hfs 2 _ rfl
  rw [k1] at f2
  simp only [List.drop, List.take] at f2
  obtain ⟨y2, hy2⟩ : ∃ y, xs[2]? = some y := ⟨xs[2]'(by rw [hxs]; decide), List.getElem?_eq_getElem _⟩
  rw [hy2] at f2
  obtain ⟨x2, e2, _, _⟩ := DataW.trod_int Tryz.underlying2 f2
  have g2 : c2 = .int .i64 x2 := by simpa using e2
  have f3 : DataW.trod enc Tryz.prog W b0 sp hd n 2 (List.take (Tryz.prog.cellsOf 2) (List.drop 3 [c0, c1, c2, c3, c4])) = xs[3]? := hfs 3 _ rfl
  rw [k1] at f3
  simp only [List.drop, List.take] at f3
  obtain ⟨y3, hy3⟩ : ∃ y, xs[3]? = some y := ⟨xs[3]'(by rw [hxs]; decide), List.getElem?_eq_getElem _⟩
  rw [hy3] at f3
  obtain ⟨x3, e3, _, _⟩ := DataW.trod_int Tryz.underlying2 f3
  have g3 : c3 = .int .i64 x3 := by simpa using e3
  have f4 : DataW.trod enc Tryz.prog W b0 sp hd n 27 (List.take (Tryz.prog.cellsOf 27) (List.drop 4 [c0, c1, c2, c3, c4])) = xs[4]? := hfs 4 _ rfl
  have k4 : Tryz.prog.cellsOf 27 = 1 := by kernel_rfl
  rw [k4] at f4
  simp only [List.drop, List.take] at f4
  obtain ⟨y4, hy4⟩ : ∃ y, xs[4]? = some y := ⟨xs[4]'(by rw [hxs]; decide), List.getElem?_eq_getElem _⟩
  rw [hy4] at f4
  obtain ⟨l, hl, hs⟩ := t_SectorS f4
  subst g0 g1 g2 g3
  exact ⟨⟨x0, x1, x2, x3, l⟩, c4, rfl, hl, hs⟩
theorem o_DscS (e : Value.okWide Tryz.prog W .any base 22 v) (h : DataW.Trod enc Tryz.prog W 0 sp hd 22 v d p) : ∃ l : List Dsc, DscIn W v l := by
  obtain ⟨A, n, c, rfl⟩ := okWide_slice Tryz.underlying22 e
  obtain ⟨fuel, hf⟩ := h
  have hC : Tryz.prog.cellsOf 29 = 5 := by kernel_rfl
  rcases Go.Deep.open_slice Tryz.underlying22 hf with ⟨hcs, _⟩ | ⟨a, len, cap, m, k, D, Pl, hcs, hb, hl, hm, hmm, _, hx⟩
  · simp [Value.cells] at hcs
    obtain ⟨rfl, rfl, rfl⟩ := hcs
    exact ⟨[], ⟨none, 0, rfl, Nat.zero_le _, .inl rfl⟩⟩
  · simp [Value.cells] at hcs
    obtain ⟨rfl, rfl, rfl⟩ := hcs
    have hlm : n ≤ m := by rw [hmm]; split <;> omega
    obtain ⟨F, hF⟩ := Go.Deep.choose_lt (α := Dsc) (n := n) (p := fun i e => ∃ bv, SecIn W bv e.secs ∧ ∀ (j : Nat) (u : Value), (e.ints ++ [bv])[j]? = some u → W.cell? (a.add (i * 5 + j)) = some u) (fun i hi => by
      obtain ⟨cs, h1, h2⟩ := hx i (by omega)
      rw [hC] at h1
      obtain ⟨e, bv, rfl, hs⟩ := c_Disc h2
      obtain ⟨_, _, h3⟩ := World.cells?_some h1
      exact ⟨e, bv, hs, fun j u hu => by
        have hj : j < 5 := by have := (List.getElem?_eq_some_iff.1 hu).1; simpa [Dsc.ints] using this
        rw [← hu, ← h3 j hj, Go.Deep.add_add]⟩)
    have hlen : ((List.range n).map F).length = n := by simp
    refine ⟨(List.range n).map F, ⟨some a, c, by rw [hlen], by rw [hlen]; omega, ?_⟩⟩
    rcases Nat.eq_zero_or_pos n with rfl | h0
    · exact .inl rfl
    · obtain ⟨b, o, spot⟩ := a
      obtain ⟨bv0, _, hc0'⟩ := hF 0 h0
      have hc0 := hc0' 0 _ rfl
      have hspot : spot = none := by simpa [Addr.add] using World.cell?_spot hc0
      subst hspot
      have hc00 := World.block_lt_of_cell? W _ hc0
      refine .inr ⟨b, o, rfl, by simpa [Addr.add] using hc00, fun k' e' hk => ?_⟩
      have hk' : k' < n := by have := (List.getElem?_eq_some_iff.1 hk).1; rw [hlen] at this; exact this
      have he : e' = F k' := by simp [hk'] at hk; exact hk.symm
      subst he
      have e2 : ∀ j, (⟨b, o, none⟩ : Addr).add j = ⟨b, o + j, none⟩ := fun j => by unfold Addr.add; split <;> simp_all
      obtain ⟨bv, t0, t1⟩ := hF k' hk'
      refine ⟨bv, t0, fun j u hu => ?_⟩
      have := t1 j u hu
      rw [e2] at this
      rw [Nat.add_assoc]; exact this
end
end Go.Proofs.YtfcdienphillnaaGreat
namespace Go.Proofs.YtfcdienphillnaaGreat
set_option linter.unusedVariables false
set_option linter.unusedSimpArgs false
open Go.ChangeShapes Go.WideShapes Go.ChangeAt Go.RowKit
set_option maxRecDepth 20000

section
variable {H : Type} {enc : TypeId × Value → H} {W : World} {base : Nat} {v : Value} {d : DataW H} {p : List MemPlace} {fuel : Nat} {sp : Nat → Bool} {hd : Bool} {b0 : Nat} {cs : List Value} {x : DataW H × List MemPlace}
theorem c_Int64 (h : DataW.trod enc Tryz.prog W b0 sp hd fuel 2 cs = some x) : ∃ e : Int, cs = icell e ∧ True := by
  obtain ⟨s, e0, _, w0⟩ := DataW.trod_int Tryz.underlying2 h
  exact ⟨s, by simpa [icell] using e0, trivial⟩
theorem o_RInt64S (e : Value.okWide Tryz.prog W .any base 23 v) (h : DataW.Trod enc Tryz.prog W 0 sp hd 23 v d p) : ∃ l : List Int, RInt64S.raw W v l := by
  obtain ⟨A, n, c, rfl⟩ := okWide_slice Tryz.underlying23 e
  obtain ⟨fuel, hf⟩ := h
  have hC : Tryz.prog.cellsOf 2 = 1 := by kernel_rfl
  rcases Go.Deep.open_slice Tryz.underlying23 hf with ⟨hcs, _⟩ | ⟨a, len, cap, m, k, D, Pl, hcs, hb, hl, hm, hmm, _, hx⟩
  · simp [Value.cells] at hcs
    obtain ⟨rfl, rfl, rfl⟩ := hcs
    exact ⟨[], ⟨none, 0, rfl, Nat.zero_le _, .inl rfl⟩, by simp⟩
  · simp [Value.cells] at hcs
    obtain ⟨rfl, rfl, rfl⟩ := hcs
    have hlm : n ≤ m := by rw [hmm]; split <;> omega
    obtain ⟨F, hF⟩ := Go.Deep.choose_lt (α := Int) (n := n) (p := fun i e => (∀ j u, (icell e)[j]? = some u → W.cell? (a.add (i * 1 + j)) = some u) ∧ True) (fun i hi => by
      obtain ⟨cs, h1, h2⟩ := hx i (by omega)
      rw [hC] at h1
      obtain ⟨e, rfl, hv⟩ := c_Int64 h2
      obtain ⟨_, _, h3⟩ := World.cells?_some h1
      exact ⟨e, ⟨fun j u hu => by
        have hj : j < 1 := by have := (List.getElem?_eq_some_iff.1 hu).1; rw [icell_len] at this; exact this
        rw [← hu, ← h3 j hj, Go.Deep.add_add], hv⟩⟩)
    have hlen : ((List.range n).map F).length = n := by simp
    refine ⟨(List.range n).map F, ⟨some a, c, by rw [hlen], by rw [hlen]; omega, ?_⟩, fun e he => by
      obtain ⟨i, hi, rfl⟩ := List.mem_map.1 he
      exact (hF i (List.mem_range.1 hi)).2⟩
    rcases Nat.eq_zero_or_pos n with rfl | h0
    · exact .inl rfl
    · obtain ⟨b, o, spot⟩ := a
      have hc0 := (hF 0 h0).1 0 _ rfl
      have hspot : spot = none := by simpa [Addr.add] using World.cell?_spot hc0
      subst hspot
      have hc00 := World.block_lt_of_cell? W _ hc0
      refine .inr ⟨b, o, rfl, by simpa [Addr.add] using hc00, fun k' e' j u hk hu => ?_⟩
      have hk' : k' < n := by have := (List.getElem?_eq_some_iff.1 hk).1; rw [hlen] at this; exact this
      have he : e' = F k' := by simp [hk'] at hk; exact hk.symm
      subst he
      have := (hF k' hk').1 j u hu
      rw [show o + k' * 1 + j = o + (k' * 1 + j) by omega]
      have e2 : (⟨b, o, none⟩ : Addr).add (k' * 1 + j) = ⟨b, o + (k' * 1 + j), none⟩ := by unfold Addr.add; split <;> simp_all
      rw [e2] at this
      exact this
end
end Go.Proofs.YtfcdienphillnaaGreat
namespace Go.Proofs.YtfcdienphillnaaGreat
set_option linter.unusedVariables false
set_option linter.unusedSimpArgs false
open Go.ChangeShapes Go.WideShapes Go.ChangeAt Go.RowKit
set_option maxRecDepth 20000

section
variable {H : Type} {enc : TypeId × Value → H} {W : World} {base : Nat} {v : Value} {d : DataW H} {p : List MemPlace} {fuel : Nat} {sp : Nat → Bool} {hd : Bool} {b0 : Nat} {cs : List Value} {x : DataW H × List MemPlace}
theorem c_String (h : DataW.trod enc Tryz.prog W b0 sp hd fuel 9 cs = some x) : ∃ e : ByteArray, cs = scell e ∧ e.size ≤ maxLen := by
  obtain ⟨s, e0, _, w0⟩ := DataW.trod_string Tryz.underlying9 h
  exact ⟨s, by simpa [scell] using e0, w0⟩
theorem o_RStringS (e : Value.okWide Tryz.prog W .any base 24 v) (h : DataW.Trod enc Tryz.prog W 0 sp hd 24 v d p) : ∃ l : List ByteArray, RStringS.raw W v l := by
  obtain ⟨A, n, c, rfl⟩ := okWide_slice Tryz.underlying24 e
  obtain ⟨fuel, hf⟩ := h
  have hC : Tryz.prog.cellsOf 9 = 1 := by kernel_rfl
  rcases Go.Deep.open_slice Tryz.underlying24 hf with ⟨hcs, _⟩ | ⟨a, len, cap, m, k, D, Pl, hcs, hb, hl, hm, hmm, _, hx⟩
  · simp [Value.cells] at hcs
    obtain ⟨rfl, rfl, rfl⟩ := hcs
    exact ⟨[], ⟨none, 0, rfl, Nat.zero_le _, .inl rfl⟩, by simp⟩
  · simp [Value.cells] at hcs
    obtain ⟨rfl, rfl, rfl⟩ := hcs
    have hlm : n ≤ m := by rw [hmm]; split <;> omega
    obtain ⟨F, hF⟩ := Go.Deep.choose_lt (α := ByteArray) (n := n) (p := fun i e => (∀ j u, (scell e)[j]? = some u → W.cell? (a.add (i * 1 + j)) = some u) ∧ e.size ≤ maxLen) (fun i hi => by
      obtain ⟨cs, h1, h2⟩ := hx i (by omega)
      rw [hC] at h1
      obtain ⟨e, rfl, hv⟩ := c_String h2
      obtain ⟨_, _, h3⟩ := World.cells?_some h1
      exact ⟨e, ⟨fun j u hu => by
        have hj : j < 1 := by have := (List.getElem?_eq_some_iff.1 hu).1; rw [scell_len] at this; exact this
        rw [← hu, ← h3 j hj, Go.Deep.add_add], hv⟩⟩)
    have hlen : ((List.range n).map F).length = n := by simp
    refine ⟨(List.range n).map F, ⟨some a, c, by rw [hlen], by rw [hlen]; omega, ?_⟩, fun e he => by
      obtain ⟨i, hi, rfl⟩ := List.mem_map.1 he
      exact (hF i (List.mem_range.1 hi)).2⟩
    rcases Nat.eq_zero_or_pos n with rfl | h0
    · exact .inl rfl
    · obtain ⟨b, o, spot⟩ := a
      have hc0 := (hF 0 h0).1 0 _ rfl
      have hspot : spot = none := by simpa [Addr.add] using World.cell?_spot hc0
      subst hspot
      have hc00 := World.block_lt_of_cell? W _ hc0
      refine .inr ⟨b, o, rfl, by simpa [Addr.add] using hc00, fun k' e' j u hk hu => ?_⟩
      have hk' : k' < n := by have := (List.getElem?_eq_some_iff.1 hk).1; rw [hlen] at this; exact this
      have he : e' = F k' := by simp [hk'] at hk; exact hk.symm
      subst he
      have := (hF k' hk').1 j u hu
      rw [show o + k' * 1 + j = o + (k' * 1 + j) by omega]
      have e2 : (⟨b, o, none⟩ : Addr).add (k' * 1 + j) = ⟨b, o + (k' * 1 + j), none⟩ := by unfold Addr.add; split <;> simp_all
      rw [e2] at this
      exact this
end
end Go.Proofs.YtfcdienphillnaaGreat
namespace Go.Proofs.YtfcdienphillnaaGreat
set_option linter.unusedVariables false
set_option linter.unusedSimpArgs false
open Go.ChangeShapes Go.WideShapes Go.ChangeAt Go.RowKit
set_option maxRecDepth 20000
section
variable {H : Type} {enc : TypeId × Value → H} {W : World} {base : Nat} {v : Value} {d : DataW H} {p : List MemPlace} {fuel : Nat} {sp : Nat → Bool} {hd : Bool} {b0 : Nat} {cs : List Value} {x : DataW H × List MemPlace}
theorem t_Int64S {sl : Nat} {c0 : Value} (hf : DataW.trod enc Tryz.prog W sl sp hd fuel 23 [c0] = some x) : ∃ l : List Int, RawL icell 1 W c0 l := by
  have hC : Tryz.prog.cellsOf 2 = 1 := by kernel_rfl
  rcases Go.Deep.open_slice Tryz.underlying23 hf with ⟨hcs, _⟩ | ⟨a, n, c, m, k, D, Pl, hcs, hb, hl, hm, hmm, _, hx⟩
  · obtain rfl : c0 = .slice none 0 0 := by simpa using hcs
    exact ⟨[], ⟨none, 0, rfl, Nat.zero_le _, .inl rfl⟩⟩
  · obtain rfl : c0 = .slice (some a) n c := by simpa using hcs
    have hlm : n ≤ m := by rw [hmm]; split <;> omega
    obtain ⟨F, hF⟩ := Go.Deep.choose_lt (α := Int) (n := n) (p := fun i e => (∀ j u, (icell e)[j]? = some u → W.cell? (a.add (i * 1 + j)) = some u) ∧ True) (fun i hi => by
      obtain ⟨cs, h1, h2⟩ := hx i (by omega)
      rw [hC] at h1
      obtain ⟨e, rfl, hv⟩ := c_Int64 h2
      obtain ⟨_, _, h3⟩ := World.cells?_some h1
      exact ⟨e, ⟨fun j u hu => by
        have hj : j < 1 := by have := (List.getElem?_eq_some_iff.1 hu).1; rw [icell_len] at this; exact this
        rw [← hu, ← h3 j hj, Go.Deep.add_add], hv⟩⟩)
    have hlen : ((List.range n).map F).length = n := by simp
    refine ⟨(List.range n).map F, ⟨some a, c, by rw [hlen], by rw [hlen]; omega, ?_⟩⟩
    rcases Nat.eq_zero_or_pos n with rfl | h0
    · exact .inl rfl
    · obtain ⟨b, o, spot⟩ := a
      have hc0 := (hF 0 h0).1 0 _ rfl
      have hspot : spot = none := by simpa [Addr.add] using World.cell?_spot hc0
      subst hspot
      have hc00 := World.block_lt_of_cell? W _ hc0
      refine .inr ⟨b, o, rfl, by simpa [Addr.add] using hc00, fun k' e' j u hk hu => ?_⟩
      have hk' : k' < n := by have := (List.getElem?_eq_some_iff.1 hk).1; rw [hlen] at this; exact this
      have he : e' = F k' := by simp [hk'] at hk; exact hk.symm
      subst he
      have := (hF k' hk').1 j u hu
      rw [show o + k' * 1 + j = o + (k' * 1 + j) by omega]
      have e2 : (⟨b, o, none⟩ : Addr).add (k' * 1 + j) = ⟨b, o + (k' * 1 + j), none⟩ := by unfold Addr.add; split <;> simp_all
      rw [e2] at this
      exact this
theorem t_StringS {sl : Nat} {c0 : Value} (hf : DataW.trod enc Tryz.prog W sl sp hd fuel 24 [c0] = some x) : ∃ l : List ByteArray, StrIn W c0 l := by
  have hC : Tryz.prog.cellsOf 9 = 1 := by kernel_rfl
  rcases Go.Deep.open_slice Tryz.underlying24 hf with ⟨hcs, _⟩ | ⟨a, n, c, m, k, D, Pl, hcs, hb, hl, hm, hmm, _, hx⟩
  · obtain rfl : c0 = .slice none 0 0 := by simpa using hcs
    exact ⟨[], ⟨none, 0, rfl, Nat.zero_le _, .inl rfl⟩, by simp⟩
  · obtain rfl : c0 = .slice (some a) n c := by simpa using hcs
    have hlm : n ≤ m := by rw [hmm]; split <;> omega
    obtain ⟨F, hF⟩ := Go.Deep.choose_lt (α := ByteArray) (n := n) (p := fun i e => (∀ j u, (scell e)[j]? = some u → W.cell? (a.add (i * 1 + j)) = some u) ∧ e.size ≤ maxLen) (fun i hi => by
      obtain ⟨cs, h1, h2⟩ := hx i (by omega)
      rw [hC] at h1
      obtain ⟨e, rfl, hv⟩ := c_String h2
      obtain ⟨_, _, h3⟩ := World.cells?_some h1
      exact ⟨e, ⟨fun j u hu => by
        have hj : j < 1 := by have := (List.getElem?_eq_some_iff.1 hu).1; rw [scell_len] at this; exact this
        rw [← hu, ← h3 j hj, Go.Deep.add_add], hv⟩⟩)
    have hlen : ((List.range n).map F).length = n := by simp
    refine ⟨(List.range n).map F, ⟨some a, c, by rw [hlen], by rw [hlen]; omega, ?_⟩, fun e he => by
      obtain ⟨i, hi, rfl⟩ := List.mem_map.1 he
      exact (hF i (List.mem_range.1 hi)).2⟩
    rcases Nat.eq_zero_or_pos n with rfl | h0
    · exact .inl rfl
    · obtain ⟨b, o, spot⟩ := a
      have hc0 := (hF 0 h0).1 0 _ rfl
      have hspot : spot = none := by simpa [Addr.add] using World.cell?_spot hc0
      subst hspot
      have hc00 := World.block_lt_of_cell? W _ hc0
      refine .inr ⟨b, o, rfl, by simpa [Addr.add] using hc00, fun k' e' j u hk hu => ?_⟩
      have hk' : k' < n := by have := (List.getElem?_eq_some_iff.1 hk).1; rw [hlen] at this; exact this
      have he : e' = F k' := by simp [hk'] at hk; exact hk.symm
      subst he
      have := (hF k' hk').1 j u hu
      rw [show o + k' * 1 + j = o + (k' * 1 + j) by omega]
      have e2 : (⟨b, o, none⟩ : Addr).add (k' * 1 + j) = ⟨b, o + (k' * 1 + j), none⟩ := by unfold Addr.add; split <;> simp_all
      rw [e2] at this
      exact this
theorem t_DscS {sl : Nat} {c0 : Value} (hf : DataW.trod enc Tryz.prog W sl sp hd fuel 22 [c0] = some x) : ∃ l : List Dsc, DscIn W c0 l := by
  have hC : Tryz.prog.cellsOf 29 = 5 := by kernel_rfl
  rcases Go.Deep.open_slice Tryz.underlying22 hf with ⟨hcs, _⟩ | ⟨a, n, c, m, k, D, Pl, hcs, hb, hl, hm, hmm, _, hx⟩
  · obtain rfl : c0 = .slice none 0 0 := by simpa using hcs
    exact ⟨[], ⟨none, 0, rfl, Nat.zero_le _, .inl rfl⟩⟩
  · obtain rfl : c0 = .slice (some a) n c := by simpa using hcs
    have hlm : n ≤ m := by rw [hmm]; split <;> omega
    obtain ⟨F, hF⟩ := Go.Deep.choose_lt (α := Dsc) (n := n) (p := fun i e => ∃ bv, SecIn W bv e.secs ∧ ∀ (j : Nat) (u : Value), (e.ints ++ [bv])[j]? = some u → W.cell? (a.add (i * 5 + j)) = some u) (fun i hi => by
      obtain ⟨cs, h1, h2⟩ := hx i (by omega)
      rw [hC] at h1
      obtain ⟨e, bv, rfl, hs⟩ := c_Disc h2
      obtain ⟨_, _, h3⟩ := World.cells?_some h1
      exact ⟨e, bv, hs, fun j u hu => by
        have hj : j < 5 := by have := (List.getElem?_eq_some_iff.1 hu).1; simpa [Dsc.ints] using this
        rw [← hu, ← h3 j hj, Go.Deep.add_add]⟩)
    have hlen : ((List.range n).map F).length = n := by simp
    refine ⟨(List.range n).map F, ⟨some a, c, by rw [hlen], by rw [hlen]; omega, ?_⟩⟩
    rcases Nat.eq_zero_or_pos n with rfl | h0
    · exact .inl rfl
    · obtain ⟨b, o, spot⟩ := a
      obtain ⟨bv0, _, hc0'⟩ := hF 0 h0
      have hc0 := hc0' 0 _ rfl
      have hspot : spot = none := by simpa [Addr.add] using World.cell?_spot hc0
      subst hspot
      have hc00 := World.block_lt_of_cell? W _ hc0
      refine .inr ⟨b, o, rfl, by simpa [Addr.add] using hc00, fun k' e' hk => ?_⟩
      have hk' : k' < n := by have := (List.getElem?_eq_some_iff.1 hk).1; rw [hlen] at this; exact this
      have he : e' = F k' := by simp [hk'] at hk; exact hk.symm
      subst he
      have e2 : ∀ j, (⟨b, o, none⟩ : Addr).add j = ⟨b, o + j, none⟩ := fun j => by unfold Addr.add; split <;> simp_all
      obtain ⟨bv, t0, t1⟩ := hF k' hk'
      refine ⟨bv, t0, fun j u hu => ?_⟩
      have := t1 j u hu
      rw [e2] at this
      rw [Nat.add_assoc]; exact this
theorem o_Evd (e : Value.okWide Tryz.prog W .any base 26 v) (h : DataW.Trod enc Tryz.prog W 0 sp hd 26 v d p) : ∃ (m : Evd) (v0 v1 v2 v3 : Value), v = evV v0 v1 v2 v3 ∧ EvIn W m v0 v1 v2 v3 := by
  obtain ⟨cs, rfl, hsz⟩ := okWide_struct Tryz.underlying26 e
  have hC : Tryz.prog.cellsOf 26 = 4 := by kernel_rfl
  rw [hC] at hsz
  obtain ⟨c0, c1, c2, c3, rfl⟩ : ∃ c0 c1 c2 c3, cs = #[c0, c1, c2, c3] := by
    obtain ⟨l⟩ := cs
    match l, hsz with
    | [c0, c1, c2, c3], _ => exact ⟨_, _, _, _, rfl⟩
  obtain ⟨fuel, hf⟩ := h
  obtain ⟨xs, n, hx, _, hlen, hxs, hfs⟩ := DataW.trod_struct Tryz.underlying26 hf
  have kD : Tryz.prog.cellsOf 22 = 1 := by kernel_rfl
  have kI : Tryz.prog.cellsOf 23 = 1 := by kernel_rfl
  have kS : Tryz.prog.cellsOf 24 = 1 := by kernel_rfl
  have g : ∀ i, i < 4 → ∃ y, xs[i]? = some y := fun i hi => ⟨xs[i]'(by rw [hxs]; exact hi), List.getElem?_eq_getElem _⟩
  obtain ⟨y0, hy0⟩ := g 0 (by omega)
  obtain ⟨y1, hy1⟩ := g 1 (by omega)
  obtain ⟨y2, hy2⟩ := g 2 (by omega)
  obtain ⟨y3, hy3⟩ := g 3 (by omega)
  have f0 : DataW.trod enc Tryz.prog W 0 sp hd n 22 (List.take (Tryz.prog.cellsOf 22) (List.drop 0 [c0, c1, c2, c3])) = xs[0]? := hfs 0 _ rfl
  have f1 : DataW.trod enc Tryz.prog W 0 sp hd n 23 (List.take (Tryz.prog.cellsOf 23) (List.drop 1 [c0, c1, c2, c3])) = xs[1]? := hfs 1 _ rfl
  have f2 : DataW.trod enc Tryz.prog W 0 sp hd n 24 (List.take (Tryz.prog.cellsOf 24) (List.drop 2 [c0, c1, c2, c3])) = xs[2]? := hfs 2 _ rfl
  have f3 : DataW.trod enc Tryz.prog W 0 sp hd n 24 (List.take (Tryz.prog.cellsOf 24) (List.drop 3 [c0, c1, c2, c3])) = xs[3]? := hfs 3 _ rfl
  rw [kD, hy0] at f0
  rw [kI, hy1] at f1
  rw [kS, hy2] at f2
  rw [kS, hy3] at f3
  simp only [List.drop, List.take] at f0 f1 f2 f3
  obtain ⟨l0, h0⟩ := t_DscS f0
  obtain ⟨l1, h1⟩ := t_Int64S f1
  obtain ⟨l2, h2⟩ := t_StringS f2
  obtain ⟨l3, h3⟩ := t_StringS f3
  exact ⟨⟨l0, l1, l2, l3⟩, _, _, _, _, rfl, ⟨h0, h1, h2, h3⟩⟩
end
end Go.Proofs.YtfcdienphillnaaGreat
namespace Go.Proofs.YtfcdienphillnaaGreat
set_option linter.unusedVariables false
set_option linter.unusedSimpArgs false
open Go.ChangeShapes Go.WideShapes Go.ChangeAt Go.RowKit
set_option maxRecDepth 20000
section
variable {H : Type} {enc : TypeId × Value → H} {W : World} {base : Nat} {v : Value} {d : DataW H} {p : List MemPlace} {fuel : Nat} {sp : Nat → Bool} {hd : Bool} {b0 : Nat} {cs : List Value} {x : DataW H × List MemPlace}
theorem o_Disc (e : Value.okWide Tryz.prog W .any base 29 v) (h : DataW.Trod enc Tryz.prog W 0 sp hd 29 v d p) : ∃ (e : Dsc) (bv : Value), v = dscV e bv ∧ SecIn W bv e.secs := by
  obtain ⟨cs, rfl, hsz⟩ := okWide_struct Tryz.underlying29 e
  obtain ⟨fuel, hf⟩ := h
  obtain ⟨e, bv, hc, hs⟩ := c_Disc hf
  refine ⟨e, bv, ?_, hs⟩
  have : cs.toList = e.ints ++ [bv] := by simpa [Value.cells] using hc
  obtain ⟨l⟩ := cs
  simp at this
  subst this
  rfl
end
end Go.Proofs.YtfcdienphillnaaGreat
namespace Go.Proofs.YtfcdienphillnaaGreat
set_option linter.unusedVariables false
set_option linter.unusedSimpArgs false
open Go.ChangeShapes Go.WideShapes Go.ChangeAt Go.RowKit
set_option maxRecDepth 20000

section
variable {H : Type} {enc : TypeId × Value → H} {W : World} {base : Nat} {v : Value} {d : DataW H} {p : List MemPlace} {fuel : Nat} {sp : Nat → Bool} {hd : Bool} {b0 : Nat} {cs : List Value} {x : DataW H × List MemPlace}
theorem c_Source (h : DataW.trod enc Tryz.prog W b0 sp hd fuel 120 cs = some x) : ∃ e : Src, cs = e.cells := by
  obtain ⟨xs, n, rfl, _, hlen, hxs, hfs⟩ := DataW.trod_struct Tryz.underlying120 h
  have hC : Tryz.prog.cellsOf 120 = 3 := by kernel_rfl
  rw [hC] at hlen
  obtain ⟨c0, c1, c2, rfl⟩ : ∃ c0 c1 c2, cs = [c0, c1, c2] := by
    match cs, hlen with
    | [c0, c1, c2], _ => exact ⟨_, _, _, rfl⟩
  have f0 : DataW.trod enc Tryz.prog W b0 sp hd n 2 (List.take (Tryz.prog.cellsOf 2) (List.drop 0 [c0, c1, c2])) = xs[0]? := hfs 0 _ rfl
  have k0 : Tryz.prog.cellsOf 2 = 1 := by kernel_rfl
  rw [k0] at f0
  simp only [List.drop, List.take] at f0
  obtain ⟨y0, hy0⟩ : ∃ y, xs[0]? = some y := ⟨xs[0]'(by rw [hxs]; decide), List.getElem?_eq_getElem _⟩
  rw [hy0] at f0
  obtain ⟨x0, e0, _, w0⟩ := DataW.trod_int Tryz.underlying2 f0
  have g0 : c0 = .int .i64 x0 := by simpa using e0
  have f1 : DataW.trod enc Tryz.prog W b0 sp hd n 2 (List.take (Tryz.prog.cellsOf 2) (List.drop 1 [c0, c1, c2])) = xs[1]? := hfs 1 _ rfl
  have k1 : Tryz.prog.cellsOf 2 = 1 := by kernel_rfl
  rw [k1] at f1
  simp only [List.drop, List.take] at f1
  obtain ⟨y1, hy1⟩ : ∃ y, xs[1]? = some y := ⟨xs[1]'(by rw [hxs]; decide), List.getElem?_eq_getElem _⟩
  rw [hy1] at f1
  obtain ⟨x1, e1, _, w1⟩ := DataW.trod_int Tryz.underlying2 f1
  have g1 : c1 = .int .i64 x1 := by simpa using e1
  have f2 : DataW.trod enc Tryz.prog W b0 sp hd n 2 (List.take (Tryz.prog.cellsOf 2) (List.drop 2 [c0, c1, c2])) = xs[2]? := hfs 2 _ rfl
  have k2 : Tryz.prog.cellsOf 2 = 1 := by kernel_rfl
  rw [k2] at f2
  simp only [List.drop, List.take] at f2
  obtain ⟨y2, hy2⟩ : ∃ y, xs[2]? = some y := ⟨xs[2]'(by rw [hxs]; decide), List.getElem?_eq_getElem _⟩
  rw [hy2] at f2
  obtain ⟨x2, e2, _, w2⟩ := DataW.trod_int Tryz.underlying2 f2
  have g2 : c2 = .int .i64 x2 := by simpa using e2
  subst g0 g1 g2
  exact ⟨⟨x0, x1, x2⟩, rfl⟩

theorem t_SourceS {sl : Nat} {c0 : Value} (hf : DataW.trod enc Tryz.prog W sl sp hd fuel 30 [c0] = some x) : ∃ l : List Src, RawL Src.cells 3 W c0 l := by
  have hC : Tryz.prog.cellsOf 120 = 3 := by kernel_rfl
  rcases Go.Deep.open_slice Tryz.underlying30 hf with ⟨hcs, _⟩ | ⟨a, n, c, m, k, D, Pl, hcs, hb, hl, hm, hmm, _, hx⟩
  · obtain rfl : c0 = .slice none 0 0 := by simpa using hcs
    exact ⟨[], ⟨none, 0, rfl, Nat.zero_le _, .inl rfl⟩⟩
  · obtain rfl : c0 = .slice (some a) n c := by simpa using hcs
    have hlm : n ≤ m := by rw [hmm]; split <;> omega
    obtain ⟨F, hF⟩ := Go.Deep.choose_lt (α := Src) (n := n) (p := fun i e => (∀ j u, e.cells[j]? = some u → W.cell? (a.add (i * 3 + j)) = some u)) (fun i hi => by
      obtain ⟨cs, h1, h2⟩ := hx i (by omega)
      rw [hC] at h1
      obtain ⟨e, rfl⟩ := c_Source h2
      obtain ⟨_, _, h3⟩ := World.cells?_some h1
      exact ⟨e, fun j u hu => by
        have hj : j < 3 := by have := (List.getElem?_eq_some_iff.1 hu).1; rw [Src.len] at this; exact this
        rw [← hu, ← h3 j hj, Go.Deep.add_add]⟩)
    have hlen : ((List.range n).map F).length = n := by simp
    refine ⟨(List.range n).map F, ⟨some a, c, by rw [hlen], by rw [hlen]; omega, ?_⟩⟩
    rcases Nat.eq_zero_or_pos n with rfl | h0
    · exact .inl rfl
    · obtain ⟨b, o, spot⟩ := a
      have hc0 := (hF 0 h0) 0 _ rfl
      have hspot : spot = none := by simpa [Addr.add] using World.cell?_spot hc0
      subst hspot
      have hc00 := World.block_lt_of_cell? W _ hc0
      refine .inr ⟨b, o, rfl, by simpa [Addr.add] using hc00, fun k' e' j u hk hu => ?_⟩
      have hk' : k' < n := by have := (List.getElem?_eq_some_iff.1 hk).1; rw [hlen] at this; exact this
      have he : e' = F k' := by simp [hk'] at hk; exact hk.symm
      subst he
      have := (hF k' hk') j u hu
      rw [show o + k' * 3 + j = o + (k' * 3 + j) by omega]
      have e2 : (⟨b, o, none⟩ : Addr).add (k' * 3 + j) = ⟨b, o + (k' * 3 + j), none⟩ := by unfold Addr.add; split <;> simp_all
      rw [e2] at this
      exact this
theorem o_SourceS (e : Value.okWide Tryz.prog W .any base 30 v) (h : DataW.Trod enc Tryz.prog W 0 sp hd 30 v d p) : ∃ l : List Src, RawL Src.cells 3 W v l := by
  obtain ⟨A, n, c, rfl⟩ := okWide_slice Tryz.underlying30 e
  obtain ⟨fuel, hf⟩ := h
  exact t_SourceS (c0 := .slice A n c) (by simpa [Value.cells] using hf)
theorem o_RSourceS (e : Value.okWide Tryz.prog W .any base 30 v) (h : DataW.Trod enc Tryz.prog W 0 sp hd 30 v d p) : ∃ l : List Src, RSourceS.raw W v l := by
  obtain ⟨l, h1⟩ := o_SourceS e h
  exact ⟨l, h1, fun _ _ => trivial⟩
end
end Go.Proofs.YtfcdienphillnaaGreat
namespace Go.Proofs.YtfcdienphillnaaGreat
set_option linter.unusedVariables false
set_option linter.unusedSimpArgs false
open Go.ChangeShapes Go.WideShapes Go.ChangeAt Go.RowKit
set_option maxRecDepth 20000
section
variable {H : Type} {enc : TypeId × Value → H} {W : World} {base : Nat} {v : Value} {d : DataW H} {p : List MemPlace} {fuel : Nat} {sp : Nat → Bool} {hd : Bool} {b0 : Nat} {cs : List Value} {x : DataW H × List MemPlace}
theorem o_Cert (e : Value.okWide Tryz.prog W .any base 32 v) (h : DataW.Trod enc Tryz.prog W 0 sp hd 32 v d p) : ∃ v0, v = .agg #[v0] ∧ ∃ l : List Src, RSourceS.raw W v0 l := by
  obtain ⟨cs, rfl, hsz⟩ := okWide_struct Tryz.underlying32 e
  have hC : Tryz.prog.cellsOf 32 = 1 := by kernel_rfl
  rw [hC] at hsz
  obtain ⟨c0, rfl⟩ : ∃ c0, cs = #[c0] := by
    have : cs.toList.length = 1 := by simpa using hsz
    obtain ⟨a, ha⟩ := List.length_eq_one_iff.1 this
    exact ⟨a, by apply Array.ext'; simpa using ha⟩
  obtain ⟨fuel, hf⟩ := h
  obtain ⟨xs, n, hx, _, hlen, hxs, hfs⟩ := DataW.trod_struct Tryz.underlying32 hf
  have f0 : DataW.trod enc Tryz.prog W 0 sp hd n 30 (List.take (Tryz.prog.cellsOf 30) (List.drop 0 [c0])) = xs[0]? := hfs 0 _ rfl
  have k0 : Tryz.prog.cellsOf 30 = 1 := by kernel_rfl
  rw [k0] at f0
  simp only [List.drop, List.take] at f0
  obtain ⟨y0, hy0⟩ : ∃ y, xs[0]? = some y := ⟨xs[0]'(by rw [hxs]; decide), List.getElem?_eq_getElem _⟩
  rw [hy0] at f0
  obtain ⟨l, hl⟩ := t_SourceS f0
  exact ⟨_, rfl, l, hl, fun _ _ => trivial⟩
end
end Go.Proofs.YtfcdienphillnaaGreat
