/- Appends that tell which block the new slice lies in; stores into a slice of the call's own. -/
import Derived.Test.YtkpjjohanbiagaaDoorOwn
import Derived.Maps.AppendAt
namespace Go.Proofs.YtkpjjohanbiagaaDoor
set_option linter.unusedVariables false
set_option linter.unusedSimpArgs false
open Go.RowKit

section
variable {α : Type} {f : α → List Value} {z : Nat} {e : TypeId} {B : Nat} {w : World}
theorem flat_set1 (hf : ∀ a, (f a).length = z) {l : List α} {k j : Nat} {a a' : α} {u : Value} (hk : l[k]? = some a) (hj : j < z) (he : f a' = (f a).set j u) : (flat f l).set (k * z + j) u = flat f (l.set k a') := by
  induction l generalizing k with
  | nil => simp at hk
  | cons b l ih =>
    cases k with
    | zero =>
      simp at hk; subst hk
      rw [Nat.zero_mul, Nat.zero_add, flat_cons, List.set_append_left _ _ (by rw [hf]; exact hj), List.set_cons_zero, flat_cons, he]
    | succ k =>
      simp at hk
      have e1 : (k + 1) * z + j = z + (k * z + j) := by rw [Nat.add_mul]; omega
      rw [flat_cons, e1, List.set_append_right _ _ (by rw [hf]; omega), hf, Nat.add_sub_cancel_left, ih hk, List.set_cons_succ, flat_cons]
theorem OwnL.set1 (hf : ∀ a, (f a).length = z) {g n c k j : Nat} {l : List α} {a a' : α} {u : Value} (h : OwnL f z e B w (.slice (some ⟨g, 0, none⟩) n c) l) (hk : l[k]? = some a) (hj : j < z) (he : f a' = (f a).set j u) :
    OwnL f z e B (w.setCell ⟨g, k * z + j, none⟩ u) (.slice (some ⟨g, 0, none⟩) n c) (l.set k a') := by
  have hn : l.length = n := by
    obtain ⟨A, c', h1, _⟩ := h.shape
    injection h1 with _ h1 _; exact h1.symm
  subst hn
  have h1 := (World.ownsRow.stored h (k * z + j) u).1
  rw [flat_set1 hf hk hj he] at h1
  unfold OwnL
  rw [List.length_set]; exact h1
theorem OwnL.at1 (hf : ∀ a, (f a).length = z) {g n c k j : Nat} {l : List α} {a : α} {u : Value} (h : OwnL f z e B w (.slice (some ⟨g, 0, none⟩) n c) l) (hk : l[k]? = some a) (hu : (f a)[j]? = some u) : w.cell? ⟨g, k * z + j, none⟩ = some u := by
  have hn : l.length = n := by
    obtain ⟨A, c', h1, _⟩ := h.shape
    injection h1 with _ h1 _; exact h1.symm
  subst hn
  exact OwnL.cell hf h hk hu
theorem OwnL.qt {v : Value} {l : List α} {w' : World} (h : OwnL f z e B w v l) (hq : Qt w w') : OwnL f z e B w' v l := h.below (hq.below _)
end
theorem wpList_app1at {P : Program} {α : Type} (f : α → List Value) (z : Nat) (hf : ∀ a, (f a).length = z) (w : World) {ops : Array Oper} {rest : List Oper} {o : Oper} {a : Act} {Q : Exit → Act → World → Prop} (hgd : o.guard = none) (s x : Operand) (t : TypeId)
    (ho : o.op = .call { callee := .builtin .append, args := #[s, x], argTypes := #[t, t] })
    (B : Nat) (e : TypeId) (i : TypeInfo) (zv : Value) (bytes : Nat) (ht : P.underlying t = some (.slice e)) (hi : P.info? e = some i) (hz : i.zero = some zv)
    (hsize : i.size = z) (hby : i.bytes = bytes) (hzs : zv.cells.size = z) (hsz : 0 < z)
    (v : Value) (l : List α) (hs : a.eval s = v) (hown : OwnL f z e B w v l)
    (gx c : Nat) (el : α) (hx : a.eval x = .slice (some ⟨gx, 0, none⟩) 1 c) (hnews : ∀ j u, (f el)[j]? = some u → w.cell? ⟨gx, j, none⟩ = some u) (h1 : ∀ u ∈ f el, u.oneCell' = true)
    (hn : l.length + 1 ≤ 16777216) (hbytes : bytes ≤ 4096) (hbase : B ≤ w.heap.size)
    (h : ∀ v' w', OwnL f z e B w' v' (l ++ [el]) → w.grownBy w' v.ownBlock → (v'.ownBlock = v.ownBlock ∨ v'.ownBlock = some w.heap.size) → wpList P ops Q rest (a.put o.dst v') w') : wpList P ops Q (o :: rest) a w := by
  refine wpList_append_own_at w hgd s x t ho B e i zv z bytes ht hi hz hsize hby hzs hsz v l.length (flat f l) hs hown ⟨gx, 0, none⟩ 1 c (f el) hx (by rw [hf]; omega) ?_ h1 (by unfold maxLen; omega) ?_ hbase ?_
  · intro j u hu
    have e2 : (⟨gx, 0, none⟩ : Addr).add j = ⟨gx, j, none⟩ := by unfold Addr.add; split <;> simp_all
    rw [e2]; exact hnews j u hu
  · have : (l.length + 1) * bytes ≤ 16777216 * 4096 := Nat.mul_le_mul hn hbytes
    omega
  · intro v' w' h2 h3 _ h5
    refine h v' w' ?_ h3 h5
    unfold OwnL
    rw [flat_app, List.length_append]
    simpa [flat] using h2
/-- append of a part of another slice -/
theorem wpList_appSub {P : Program} {α : Type} (f : α → List Value) (z : Nat) (hf : ∀ a, (f a).length = z) (w : World) {ops : Array Oper} {rest : List Oper} {o : Oper} {a : Act} {Q : Exit → Act → World → Prop} (hgd : o.guard = none) (s x : Operand) (t : TypeId)
    (ho : o.op = .call { callee := .builtin .append, args := #[s, x], argTypes := #[t, t] })
    (B : Nat) (e : TypeId) (i : TypeInfo) (zv : Value) (bytes : Nat) (ht : P.underlying t = some (.slice e)) (hi : P.info? e = some i) (hz : i.zero = some zv)
    (hsize : i.size = z) (hby : i.bytes = bytes) (hzs : zv.cells.size = z) (hsz : 0 < z)
    (v : Value) (l : List α) (hs : a.eval s = v) (hown : OwnL f z e B w v l)
    (gx ox m c : Nat) (lx : List α) (hm : lx.length = m) (hx : a.eval x = .slice (some ⟨gx, ox, none⟩) m c) (hnews : ∀ k b j u, lx[k]? = some b → (f b)[j]? = some u → w.cell? ⟨gx, ox + (k * z + j), none⟩ = some u) (h1 : ∀ b, ∀ u ∈ f b, u.oneCell' = true)
    (hn : l.length + m ≤ 16777216) (hbytes : bytes ≤ 4096) (hbase : B ≤ w.heap.size)
    (h : ∀ v' w', OwnL f z e B w' v' (l ++ lx) → w.grownBy w' v.ownBlock → (v'.ownBlock = v.ownBlock ∨ v'.ownBlock = some w.heap.size) → wpList P ops Q rest (a.put o.dst v') w') : wpList P ops Q (o :: rest) a w := by
  subst hm
  refine wpList_append_own_at w hgd s x t ho B e i zv z bytes ht hi hz hsize hby hzs hsz v l.length (flat f l) hs hown ⟨gx, ox, none⟩ lx.length c (flat f lx) hx (flat_len hf lx) ?_ ?_ (by unfold maxLen; omega) ?_ hbase ?_
  · intro j u hu
    have e2 : (⟨gx, ox, none⟩ : Addr).add j = ⟨gx, ox + j, none⟩ := by unfold Addr.add; split <;> simp_all
    rw [e2]
    have hj : j < lx.length * z := by have := (List.getElem?_eq_some_iff.1 hu).1; rwa [flat_len hf] at this
    have hk : j / z < lx.length := Nat.div_lt_of_lt_mul (by rw [Nat.mul_comm]; exact hj)
    have ej : j = j / z * z + j % z := by rw [Nat.mul_comm]; exact (Nat.div_add_mod j z).symm
    have hb := List.getElem?_eq_getElem hk
    rw [ej, flat_get hf hb (Nat.mod_lt _ hsz)] at hu
    rw [ej]
    exact hnews _ _ _ _ hb hu
  · intro u hu
    obtain ⟨b, _, hb⟩ := List.mem_flatMap.1 hu
    exact h1 b u hb
  · have : (l.length + lx.length) * bytes ≤ 16777216 * 4096 := Nat.mul_le_mul hn hbytes
    omega
  · intro v' w' h2 h3 _ h5
    refine h v' w' ?_ h3 h5
    unfold OwnL
    rw [flat_app, List.length_append]
    exact h2
end Go.Proofs.YtkpjjohanbiagaaDoor
