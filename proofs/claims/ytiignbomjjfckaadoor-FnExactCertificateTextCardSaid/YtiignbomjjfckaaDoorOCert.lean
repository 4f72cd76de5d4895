/- Opening a certificate that came in. -/
import Derived.Test.YtiignbomjjfckaaDoorOSource
namespace Go.Proofs.YtiignbomjjfckaaDoor
set_option linter.unusedVariables false
set_option linter.unusedSimpArgs false
open Go.ChangeShapes Go.WideShapes Go.ChangeAt Go.RowKit
set_option maxRecDepth 20000
section
variable {H : Type} {enc : TypeId × Value → H} {W : World} {base : Nat} {v : Value} {d : DataW H} {p : List MemPlace} {fuel : Nat} {sp : Nat → Bool} {hd : Bool} {b0 : Nat} {cs : List Value} {x : DataW H × List MemPlace}
theorem o_Cert (e : Value.okWide Tryd.prog W .any base 24 v) (h : DataW.Trod enc Tryd.prog W 0 sp hd 24 v d p) : ∃ v0, v = .agg #[v0] ∧ ∃ l : List Src, RSourceS.raw W v0 l := by
  obtain ⟨cs, rfl, hsz⟩ := okWide_struct Tryd.underlying24 e
  have hC : Tryd.prog.cellsOf 24 = 1 := by kernel_rfl
  rw [hC] at hsz
  obtain ⟨c0, rfl⟩ : ∃ c0, cs = #[c0] := by
    have : cs.toList.length = 1 := by simpa using hsz
    obtain ⟨a, ha⟩ := List.length_eq_one_iff.1 this
    exact ⟨a, by apply Array.ext'; simpa using ha⟩
  obtain ⟨fuel, hf⟩ := h
  obtain ⟨xs, n, hx, _, hlen, hxs, hfs⟩ := DataW.trod_struct Tryd.underlying24 hf
  have f0 : DataW.trod enc Tryd.prog W 0 sp hd n 22 (List.take (Tryd.prog.cellsOf 22) (List.drop 0 [c0])) = xs[0]? := hfs 0 _ rfl
  have k0 : Tryd.prog.cellsOf 22 = 1 := by kernel_rfl
  rw [k0] at f0
  simp only [List.drop, List.take] at f0
  obtain ⟨y0, hy0⟩ : ∃ y, xs[0]? = some y := ⟨xs[0]'(by rw [hxs]; decide), List.getElem?_eq_getElem _⟩
  rw [hy0] at f0
  obtain ⟨l, hl⟩ := t_SourceS f0
  exact ⟨_, rfl, l, hl, fun _ _ => trivial⟩
end
end Go.Proofs.YtiignbomjjfckaaDoor
