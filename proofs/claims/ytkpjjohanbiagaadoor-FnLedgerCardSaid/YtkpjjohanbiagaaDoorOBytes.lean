/- Opening a slice of bytes that came in. -/
import Derived.Test.YtkpjjohanbiagaaDoorOpen
import Derived.Test.YtkpjjohanbiagaaDoorDraw
namespace Go.Proofs.YtkpjjohanbiagaaDoor
set_option linter.unusedVariables false
set_option linter.unusedSimpArgs false
open Go.ChangeShapes Go.WideShapes Go.ChangeAt Go.RowKit
set_option maxRecDepth 20000

section
variable {H : Type} {enc : TypeId × Value → H} {W : World} {base : Nat} {v : Value} {d : DataW H} {p : List MemPlace} {fuel : Nat} {sp : Nat → Bool} {hd : Bool} {b0 : Nat} {cs : List Value} {x : DataW H × List MemPlace}
theorem wf_u8 {x : Int} (h : (Lit.int .u8 x).wf = true) : 0 ≤ x ∧ x ≤ 255 := by
  simp [Lit.wf, IntKind.signed, IntKind.bits] at h
  exact h
theorem c_Byte (h : DataW.trod enc Tryd.prog W b0 sp hd fuel 5 cs = some x) : ∃ e : Nat, cs = [.int .u8 (e : Int)] ∧ e < 256 := by
  obtain ⟨s, e0, _, w0⟩ := DataW.trod_int Tryd.underlying5 h
  have hb := wf_u8 w0
  refine ⟨s.toNat, ?_, by omega⟩
  rw [e0, show ((s.toNat : Nat) : Int) = s by omega]
theorem o_Bytes (e : Value.okWide Tryd.prog W .any base 35 v) (h : DataW.Trod enc Tryd.prog W 0 sp hd 35 v d p) : ∃ A n c, v = .slice A n c ∧ BytesIn W A n ∧ n ≤ maxLen := by
  obtain ⟨A, n, c, rfl⟩ := okWide_slice Tryd.underlying35 e
  obtain ⟨fuel, hf⟩ := h
  have hC : Tryd.prog.cellsOf 5 = 1 := by kernel_rfl
  refine ⟨A, n, c, rfl, ?_⟩
  rcases Go.Deep.open_slice Tryd.underlying35 hf with ⟨hcs, _⟩ | ⟨a, len, cap, m, k, D, Pl, hcs, hb, hl, hm, hmm, _, hx⟩
  · simp [Value.cells] at hcs
    obtain ⟨rfl, rfl, rfl⟩ := hcs
    exact ⟨.inl rfl, Nat.zero_le _⟩
  · simp [Value.cells] at hcs
    obtain ⟨rfl, rfl, rfl⟩ := hcs
    have hlm : n ≤ m := by rw [hmm]; split <;> omega
    refine ⟨?_, by omega⟩
    have hF : ∀ i, i < n → ∃ e : Nat, e < 256 ∧ W.cell? (a.add i) = some (.int .u8 (e : Int)) := fun i hi => by
      obtain ⟨cs, h1, h2⟩ := hx i (by omega)
      rw [hC] at h1
      obtain ⟨e, rfl, hv⟩ := c_Byte h2
      obtain ⟨_, _, h3⟩ := World.cells?_some h1
      refine ⟨e, hv, ?_⟩
      have := h3 0 (by omega)
      simpa [Go.Deep.add_add] using this
    rcases Nat.eq_zero_or_pos n with rfl | h0
    · exact .inl rfl
    · obtain ⟨b, o, spot⟩ := a
      obtain ⟨e0, _, hc0⟩ := hF 0 h0
      have hspot : spot = none := by simpa [Addr.add] using World.cell?_spot hc0
      subst hspot
      have hc00 := World.block_lt_of_cell? W _ hc0
      refine .inr ⟨b, o, rfl, by simpa [Addr.add] using hc00, fun j hj => ?_⟩
      obtain ⟨e, he, hc⟩ := hF j hj
      refine ⟨e, he, ?_⟩
      have e2 : (⟨b, o, none⟩ : Addr).add j = ⟨b, o + j, none⟩ := by unfold Addr.add; split <;> simp_all
      rw [e2] at hc
      exact hc
end
end Go.Proofs.YtkpjjohanbiagaaDoor
