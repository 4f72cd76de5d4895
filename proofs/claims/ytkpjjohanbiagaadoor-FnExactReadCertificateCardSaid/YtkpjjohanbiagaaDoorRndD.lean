/- A drawn region whose first operation, a move, need not come ahead of a row that the region lays: a law of no program. -/
import Derived.Test.YtkpjjohanbiagaaDoorRndC
namespace Go.Proofs.YtkpjjohanbiagaaDoor
set_option linter.unusedVariables false
set_option linter.unusedSimpArgs false
open Go.RowKit
section
variable {P : Program} {Q : Exit → Act → World → Prop}
def moveTailB (l : List Oper) (n : Nat) : Bool :=
  Region.noSelect l.toArray && Region.noSelect (addE 0 n l).toArray && decide (0 < n) && decide (n < l.length) && Region.sinkB .any (addE 0 n l).toArray n && Region.chainB .any (addE 0 n l).toArray n &&
  Region.lexHead .any (addE 0 n l).toArray (l.length - n) (n - 1) 1 ((Array.replicate l.length false).setIfInBounds 0 true) && Region.free .any l.toArray (Array.replicate l.length false) 0 && (Region.ready .any l.toArray (Array.replicate l.length false)).contains 0 &&
  (Region.ready .any (addE 0 n l).toArray (Array.replicate l.length false)).contains 0 && noGuard l
theorem region_move_tail {id : Nat} {a : Act} {w : World} {l : List Oper} {o0 : Oper} {x : Operand} (n : Nat) (h0 : l[0]? = some o0) (hx : o0.op = .move x) (hm : P.follows .mixedOrders = true) (hB : moveTailB l n = true)
    (hQ : ∀ c a' w, Q (.panic c) (a'.put o0.dst (a.eval x)) w → Q (.panic c) a' w)
    (h : ∀ w6, w6 = w.drew → wpStill P (addE 0 n l).toArray w6 (fun a' => wpList P (addE 0 n l).toArray Q ((addE 0 n l).drop n) a' w6) (((addE 0 n l).take n).drop 1) (a.put o0.dst (a.eval x))) : (Code.region id l.toArray true).wp P Q a w := by
  have h := h _ rfl
  simp only [moveTailB, Bool.and_eq_true, decide_eq_true_eq, List.contains_iff_mem] at hB
  obtain ⟨⟨⟨⟨⟨⟨⟨⟨⟨⟨hsel, hsel2⟩, hn0⟩, hn⟩, hs⟩, hc⟩, hlex⟩, hfr⟩, hr⟩, hr2⟩, hng⟩ := hB
  have hln := addE_len 0 n l
  have hn' : n < (addE 0 n l).toArray.size := by simpa [hln] using hn
  have hhd : (((addE 0 n l).take n).drop 1).length = n - 1 := by simp [hln]; omega
  have hdl : ((addE 0 n l).drop n).length = l.length - n := by simp [hln]
  have inv0 : HeadInv .any (addE 0 n l).toArray n (Array.replicate l.length false) :=
    ⟨by simp [hln], fun j oj _ hl => (by rw [getD_replicate_false] at hl; cases hl), fun t _ ht => getD_in (by simpa [hln] using ht) (getD_replicate_false _ _)⟩
  have H := wpAnyL_lex (md := .any) (g := l.length - n) hsel2 hs hc hn' (((addE 0 n l).take n).drop 1) 1 ((Array.replicate l.length false).setIfInBounds 0 true) _ (fun j hj => by
    rw [hhd] at hj
    have hj' : 1 + j < n := by omega
    rw [List.getElem?_drop, List.getElem?_take, if_pos hj', List.getElem?_toArray]) (by rw [hhd]; omega) (inv0.set hr2 hn0) (by rw [hhd]; exact hlex) h
  refine wp_region_any hm ?_
  obtain ⟨k, hk⟩ : ∃ k, l.toArray.size = k + 1 := ⟨l.length - 1, by simp; omega⟩
  have hk' : l.length = k + 1 := by simpa using hk
  rw [hk]
  refine wpAny_first (i := 0) (oi := o0) (v := a.eval x) (by simpa using h0) (Region.noSelect_spec hsel) hQ k _ a _ (Region.free_spec (by simpa using h0) (by rw [← hk']; exact hfr)) (by rw [← hk']; exact hr) (.inl ⟨noGuard_at hng h0 _, fun w => by unfold execOp; rw [hx]; rfl⟩) ?_
  refine wpAny_addE (i := 0) (n := n) hng _ _ _ _ (by simp) ?_
  have := wpAny_of_head (Q' := Q) (g := l.length - n) (fun listed a' hL => by
    have := wpAny_of_seq (md := .any) (Q' := Q) ((addE 0 n l).drop n) n listed a' w.drew (fun j => by simp [List.getElem?_drop]) (by rw [hdl]; exact hL.1) hL.2
    rwa [hdl] at this) _ _ _ H
  rw [hhd, show n - 1 + (l.length - n) = k by omega] at this
  rw [← hk']
  exact this
end
end Go.Proofs.YtkpjjohanbiagaaDoor
