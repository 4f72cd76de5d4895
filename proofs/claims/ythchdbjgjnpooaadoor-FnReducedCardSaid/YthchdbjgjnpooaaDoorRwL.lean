/- Rows of equations in memory: their cells, stores into them, arithmetic of 64 bits. -/
import Derived.Test.YthchdbjgjnpooaaDoorWord
import Derived.Test.YthchdbjgjnpooaaDoorLin2
import Derived.Test.YthchdbjgjnpooaaDoorHInt64
import Derived.Maps.AppendAt
namespace Go.Proofs.YthchdbjgjnpooaaDoor
set_option linter.unusedVariables false
set_option linter.unusedSimpArgs false
open Go.RowKit

section
variable {α : Type} {f : α → List Value} {z : Nat} {e : TypeId} {B : Nat} {w : World}
theorem flat_set1 (hf : ∀ a, (f a).length = z) {l : List α} {k j : Nat} {a a' : α} {u : Value} (hk : l[k]? = some a) (hj : j < z) (he : f a' = (f a).set j u) : (flat f l).set (k * z + j) u = flat f (l.set k a') := by
  induction l generalizing k with
  | nil => simp at hk
  | cons b l ih =>
    cases k with
    | zero =>
      simp at hk; subst hk
      rw [Nat.zero_mul, Nat.zero_add, flat_cons, List.set_append_left _ _ (by rw [hf]; exact hj), List.set_cons_zero, flat_cons, he]
    | succ k =>
      simp at hk
      have e1 : (k + 1) * z + j = z + (k * z + j) := by rw [Nat.add_mul]; omega
      rw [flat_cons, e1, List.set_append_right _ _ (by rw [hf]; omega), hf, Nat.add_sub_cancel_left, ih hk, List.set_cons_succ, flat_cons]
theorem OwnL.set1 (hf : ∀ a, (f a).length = z) {g n c k j : Nat} {l : List α} {a a' : α} {u : Value} (h : OwnL f z e B w (.slice (some ⟨g, 0, none⟩) n c) l) (hk : l[k]? = some a) (hj : j < z) (he : f a' = (f a).set j u) :
    OwnL f z e B (w.setCell ⟨g, k * z + j, none⟩ u) (.slice (some ⟨g, 0, none⟩) n c) (l.set k a') := by
  have hn : l.length = n := by
    obtain ⟨A, c', h1, _⟩ := h.shape
    injection h1 with _ h1 _; exact h1.symm
  subst hn
  have h1 := (World.ownsRow.stored h (k * z + j) u).1
  rw [flat_set1 hf hk hj he] at h1
  unfold OwnL
  rw [List.length_set]; exact h1
theorem OwnL.at1 (hf : ∀ a, (f a).length = z) {g n c k j : Nat} {l : List α} {a : α} {u : Value} (h : OwnL f z e B w (.slice (some ⟨g, 0, none⟩) n c) l) (hk : l[k]? = some a) (hu : (f a)[j]? = some u) : w.cell? ⟨g, k * z + j, none⟩ = some u := by
  have hn : l.length = n := by
    obtain ⟨A, c', h1, _⟩ := h.shape
    injection h1 with _ h1 _; exact h1.symm
  subst hn
  exact OwnL.cell hf h hk hu
theorem OwnL.qt {v : Value} {l : List α} {w' : World} (h : OwnL f z e B w v l) (hq : Qt w w') : OwnL f z e B w' v l := h.below (hq.below _)
end
def bi (b : Bool) : Int := if b then 1 else 0
theorem bi_t : bi true = 1 := rfl
theorem bi_f : bi false = 0 := rfl
def rc (κ : IntKind) (e : Rw) : List Value := [.int .u64 e.m, .int κ (bi e.r)]
theorem rc_len (κ : IntKind) (e : Rw) : (rc κ e).length = 2 := rfl
theorem rc_one (κ : IntKind) (e : Rw) : ∀ u ∈ rc κ e, u.oneCell' = true := by simp [rc, Value.oneCell']
/-- a slice that reads as rows -/
def RowsAt (κ : IntKind) (w : World) (v : Value) (l : List Rw) : Prop := ∃ A c, v = .slice A l.length c ∧ (l = [] ∨ ∃ g, A = some ⟨g, 0, none⟩ ∧ g < w.heap.size ∧ ∀ (k : Nat) (e : Rw), l[k]? = some e → w.cell? ⟨g, k * 2, none⟩ = some (.int .u64 e.m) ∧ w.cell? ⟨g, k * 2 + 1, none⟩ = some (.int κ (bi e.r)))
theorem RowsAt.own {κ : IntKind} {e : TypeId} {B : Nat} {w : World} {v : Value} {l : List Rw} (h : OwnL (rc κ) 2 e B w v l) : RowsAt κ w v l := by
  obtain ⟨A, c, rfl, hA⟩ := h.shape
  refine ⟨A, c, rfl, ?_⟩
  rcases hA with hA | ⟨g, rfl, _, hg⟩
  · exact .inl hA
  · refine .inr ⟨g, rfl, hg, fun k e hk => ⟨?_, ?_⟩⟩
    · have := OwnL.cell (rc_len κ) h hk (j := 0) rfl
      simpa using this
    · have := OwnL.cell (rc_len κ) h hk (j := 1) rfl
      simpa using this
theorem RowsAt.below {κ : IntKind} {w w' : World} {v : Value} {l : List Rw} (h : RowsAt κ w v l) (hb : Below w.heap.size w w') : RowsAt κ w' v l := by
  obtain ⟨A, c, rfl, hA⟩ := h
  refine ⟨A, c, rfl, ?_⟩
  rcases hA with hA | ⟨g, rfl, hg, hc⟩
  · exact .inl hA
  · exact .inr ⟨g, rfl, Nat.lt_of_lt_of_le hg hb.size, fun k e hk => by
      obtain ⟨h1, h2⟩ := hc k e hk
      exact ⟨(hb.cell (p := ⟨g, _, none⟩) hg).trans h1, (hb.cell (p := ⟨g, _, none⟩) hg).trans h2⟩⟩
theorem ofInt_u64 (a : Nat) (ha : a < 18446744073709551616) : (BitVec.ofInt 64 (a : Int)).toNat = a := by
  rw [BitVec.ofInt_natCast, BitVec.toNat_ofNat]; exact Nat.mod_eq_of_lt (by omega)
theorem u64_and_nat (a b : Nat) (ha : a < 18446744073709551616) (hb : b < 18446744073709551616) : bits .and .u64 (a : Int) (b : Int) = ((a &&& b : Nat) : Int) := by
  have hx : a &&& b < 2 ^ 64 := Nat.and_lt_two_pow _ (by omega)
  show IntKind.u64.wrap ((BitVec.ofInt 64 (a : Int) &&& BitVec.ofInt 64 (b : Int)).toNat : Int) = _
  rw [BitVec.toNat_and, ofInt_u64 a ha, ofInt_u64 b hb, IntKind.wrap_u64]
  omega
theorem u64_or_nat (a b : Nat) (ha : a < 18446744073709551616) (hb : b < 18446744073709551616) : bits .or .u64 (a : Int) (b : Int) = ((a ||| b : Nat) : Int) := by
  have hx : a ||| b < 2 ^ 64 := Nat.or_lt_two_pow (by omega) (by omega)
  show IntKind.u64.wrap ((BitVec.ofInt 64 (a : Int) ||| BitVec.ofInt 64 (b : Int)).toNat : Int) = _
  rw [BitVec.toNat_or, ofInt_u64 a ha, ofInt_u64 b hb, IntKind.wrap_u64]
  omega
theorem u64_xor_nat (a b : Nat) (ha : a < 18446744073709551616) (hb : b < 18446744073709551616) : bits .xor .u64 (a : Int) (b : Int) = ((a ^^^ b : Nat) : Int) := by
  have hx : a ^^^ b < 2 ^ 64 := Nat.xor_lt_two_pow (by omega) (by omega)
  show IntKind.u64.wrap ((BitVec.ofInt 64 (a : Int) ^^^ BitVec.ofInt 64 (b : Int)).toNat : Int) = _
  rw [BitVec.toNat_xor, ofInt_u64 a ha, ofInt_u64 b hb, IntKind.wrap_u64]
  omega
theorem mod2_bi (m k : Nat) : ((m / 2 ^ k % 2 : Nat) : Int) = bi (m.testBit k) := by
  rw [testBit_div]
  rcases Nat.mod_two_eq_zero_or_one (m / 2 ^ k) with h | h <;> rw [h] <;> rfl
theorem u64_bit (m k : Nat) (hm : m < 18446744073709551616) : bits .and .u64 ((m : Int) / 2 ^ k) 1 = bi (m.testBit k) := by
  have e : ((m : Int) / 2 ^ k) = ((m / 2 ^ k : Nat) : Int) := by push_cast; rfl
  have h : m / 2 ^ k < 18446744073709551616 := Nat.lt_of_le_of_lt (Nat.div_le_self _ _) hm
  rw [e, show (1 : Int) = ((1 : Nat) : Int) from rfl, u64_and_nat _ 1 h (by omega), Nat.and_one_is_mod, mod2_bi]
theorem i64_bit (m k : Nat) (hm : m < 9223372036854775808) : bits .and .i64 ((m : Int) / 2 ^ k) 1 = bi (m.testBit k) := by
  have e : ((m : Int) / 2 ^ k) = ((m / 2 ^ k : Nat) : Int) := by push_cast; rfl
  have h : m / 2 ^ k < 9223372036854775808 := Nat.lt_of_le_of_lt (Nat.div_le_self _ _) hm
  rw [e, show (1 : Int) = ((1 : Nat) : Int) from rfl, i64_and_nat _ 1 h (by omega), Nat.and_one_is_mod, mod2_bi]
theorem bi_xor (a b : Bool) : bits .xor .i64 (bi a) (bi b) = bi (a ^^ b) := by cases a <;> cases b <;> decide
theorem bi_xor_u (a b : Bool) : bits .xor .u64 (bi a) (bi b) = bi (a ^^ b) := by cases a <;> cases b <;> decide
theorem bi_one (b : Bool) : (bi b == 1) = b := by cases b <;> rfl
theorem bi_none (b : Bool) : (bi b == 0) = !b := by cases b <;> rfl
theorem bi_le (b : Bool) : 0 ≤ bi b ∧ bi b ≤ 1 := by cases b <;> decide
theorem and_pow_eq (m p : Nat) : m &&& 2 ^ p = if m.testBit p then 2 ^ p else 0 := by
  refine Nat.eq_of_testBit_eq fun i => ?_
  rw [Nat.testBit_and, Nat.testBit_two_pow]
  by_cases e : p = i
  · subst e
    cases h : m.testBit p <;> simp
  · cases h : m.testBit p <;> simp [e, Nat.testBit_two_pow]
theorem and_pow (m p : Nat) : (m &&& 2 ^ p == 0) = !m.testBit p := by
  rw [and_pow_eq]
  cases m.testBit p
  · rfl
  · have := Nat.two_pow_pos p
    simp only [if_true, Bool.not_true, beq_eq_false_iff_ne]; omega
theorem wpList_app1at {P : Program} {α : Type} (f : α → List Value) (z : Nat) (hf : ∀ a, (f a).length = z) (w : World) {ops : Array Oper} {rest : List Oper} {o : Oper} {a : Act} {Q : Exit → Act → World → Prop} (hgd : o.guard = none) (s x : Operand) (t : TypeId)
    (ho : o.op = .call { callee := .builtin .append, args := #[s, x], argTypes := #[t, t] })
    (B : Nat) (e : TypeId) (i : TypeInfo) (zv : Value) (bytes : Nat) (ht : P.underlying t = some (.slice e)) (hi : P.info? e = some i) (hz : i.zero = some zv)
    (hsize : i.size = z) (hby : i.bytes = bytes) (hzs : zv.cells.size = z) (hsz : 0 < z)
    (v : Value) (l : List α) (hs : a.eval s = v) (hown : OwnL f z e B w v l)
    (gx c : Nat) (el : α) (hx : a.eval x = .slice (some ⟨gx, 0, none⟩) 1 c) (hnews : ∀ j u, (f el)[j]? = some u → w.cell? ⟨gx, j, none⟩ = some u) (h1 : ∀ u ∈ f el, u.oneCell' = true)
    (hn : l.length + 1 ≤ 16777216) (hbytes : bytes ≤ 4096) (hbase : B ≤ w.heap.size)
    (h : ∀ v' w', OwnL f z e B w' v' (l ++ [el]) → w.grownBy w' v.ownBlock → (v'.ownBlock = v.ownBlock ∨ v'.ownBlock = some w.heap.size) → wpList P ops Q rest (a.put o.dst v') w') : wpList P ops Q (o :: rest) a w := by
  refine wpList_append_own_at w hgd s x t ho B e i zv z bytes ht hi hz hsize hby hzs hsz v l.length (flat f l) hs hown ⟨gx, 0, none⟩ 1 c (f el) hx (by rw [hf]; omega) ?_ h1 (by unfold maxLen; omega) ?_ hbase ?_
  · intro j u hu
    have e2 : (⟨gx, 0, none⟩ : Addr).add j = ⟨gx, j, none⟩ := by unfold Addr.add; split <;> simp_all
    rw [e2]; exact hnews j u hu
  · have : (l.length + 1) * bytes ≤ 16777216 * 4096 := Nat.mul_le_mul hn hbytes
    omega
  · intro v' w' h2 h3 _ h5
    refine h v' w' ?_ h3 h5
    unfold OwnL
    rw [flat_app, List.length_append]
    simpa [flat] using h2
/-- append of a part of another slice -/
theorem wpList_appSub {P : Program} {α : Type} (f : α → List Value) (z : Nat) (hf : ∀ a, (f a).length = z) (w : World) {ops : Array Oper} {rest : List Oper} {o : Oper} {a : Act} {Q : Exit → Act → World → Prop} (hgd : o.guard = none) (s x : Operand) (t : TypeId)
    (ho : o.op = .call { callee := .builtin .append, args := #[s, x], argTypes := #[t, t] })
    (B : Nat) (e : TypeId) (i : TypeInfo) (zv : Value) (bytes : Nat) (ht : P.underlying t = some (.slice e)) (hi : P.info? e = some i) (hz : i.zero = some zv)
    (hsize : i.size = z) (hby : i.bytes = bytes) (hzs : zv.cells.size = z) (hsz : 0 < z)
    (v : Value) (l : List α) (hs : a.eval s = v) (hown : OwnL f z e B w v l)
    (gx ox m c : Nat) (lx : List α) (hm : lx.length = m) (hx : a.eval x = .slice (some ⟨gx, ox, none⟩) m c) (hnews : ∀ k b j u, lx[k]? = some b → (f b)[j]? = some u → w.cell? ⟨gx, ox + (k * z + j), none⟩ = some u) (h1 : ∀ b, ∀ u ∈ f b, u.oneCell' = true)
    (hn : l.length + m ≤ 16777216) (hbytes : bytes ≤ 4096) (hbase : B ≤ w.heap.size)
    (h : ∀ v' w', OwnL f z e B w' v' (l ++ lx) → w.grownBy w' v.ownBlock → (v'.ownBlock = v.ownBlock ∨ v'.ownBlock = some w.heap.size) → wpList P ops Q rest (a.put o.dst v') w') : wpList P ops Q (o :: rest) a w := by
  subst hm
  refine wpList_append_own_at w hgd s x t ho B e i zv z bytes ht hi hz hsize hby hzs hsz v l.length (flat f l) hs hown ⟨gx, ox, none⟩ lx.length c (flat f lx) hx (flat_len hf lx) ?_ ?_ (by unfold maxLen; omega) ?_ hbase ?_
  · intro j u hu
    have e2 : (⟨gx, ox, none⟩ : Addr).add j = ⟨gx, ox + j, none⟩ := by unfold Addr.add; split <;> simp_all
    rw [e2]
    have hj : j < lx.length * z := by have := (List.getElem?_eq_some_iff.1 hu).1; rwa [flat_len hf] at this
    have hk : j / z < lx.length := Nat.div_lt_of_lt_mul (by rw [Nat.mul_comm]; exact hj)
    have ej : j = j / z * z + j % z := by rw [Nat.mul_comm]; exact (Nat.div_add_mod j z).symm
    have hb := List.getElem?_eq_getElem hk
    rw [ej, flat_get hf hb (Nat.mod_lt _ hsz)] at hu
    rw [ej]
    exact hnews _ _ _ _ hb hu
  · intro u hu
    obtain ⟨b, _, hb⟩ := List.mem_flatMap.1 hu
    exact h1 b u hb
  · have : (l.length + lx.length) * bytes ≤ 16777216 * 4096 := Nat.mul_le_mul hn hbytes
    omega
  · intro v' w' h2 h3 _ h5
    refine h v' w' ?_ h3 h5
    unfold OwnL
    rw [flat_app, List.length_append]
    exact h2
theorem rowi_info : (Tryd.prog.info? 47).map (fun i => (i.zero, i.size, i.bytes)) = some (some (.agg #[.int .u64 0, .int .i64 0]), 2, 16) := by kernel_rfl
theorem wrap_pow (k : Nat) (h : k < 64) : IntKind.u64.wrap (2 ^ k) = ((2 ^ k : Nat) : Int) := by
  have hp : 2 ^ k < 18446744073709551616 := Nat.lt_of_lt_of_le (Nat.pow_lt_pow_right (by omega) h) (by decide)
  have e : ((2 : Int) ^ k) = ((2 ^ k : Nat) : Int) := by push_cast; rfl
  rw [e, IntKind.wrap_u64]; exact Int.emod_eq_of_lt (Int.natCast_nonneg _) (Int.ofNat_lt.2 hp)
abbrev RowL (κ : IntKind) (e : TypeId) (B : Nat) (w : World) (v : Value) (l : List Rw) : Prop := OwnL (rc κ) 2 e B w v l
theorem rowu_info : (Tryd.prog.info? 61).map (fun i => (i.zero, i.size, i.bytes)) = some (some (.agg #[.int .u64 0, .int .u64 0]), 2, 16) := by kernel_rfl
theorem rowc_news (κ : IntKind) (m : Nat) (b : Bool) {w : World} {g : Nat} (h0 : w.cell? ⟨g, 0, none⟩ = some (.int .u64 m)) (h1 : w.cell? ⟨g, 1, none⟩ = some (.int κ (bi b))) : ∀ j u, (rc κ ⟨m, b⟩)[j]? = some u → w.cell? ⟨g, j, none⟩ = some u := by
  intro j u hu
  match j, hu with
  | 0, hu => simp [rc] at hu; subst hu; exact h0
  | 1, hu => simp [rc] at hu; subst hu; exact h1
  | j + 2, hu => simp [rc] at hu
theorem bi_wrap_u (b : Bool) : IntKind.u64.wrap (bi b) = bi b := by cases b <;> decide
def intsN (u : List Nat) : List Int := u.map fun i : Nat => (i : Int)
theorem intsN_len (u : List Nat) : (intsN u).length = u.length := by simp [intsN]
theorem intsN_get {u : List Nat} {k b : Nat} (h : u[k]? = some b) : (intsN u)[k]? = some (b : Int) := by simp [intsN, h]
theorem intsN_back (u : List Nat) : (intsN u).map Int.toNat = u := by
  unfold intsN; rw [List.map_map]
  conv => rhs; rw [← List.map_id u]
  exact List.map_congr_left fun x _ => by simp
theorem intsN_app (u : List Nat) (b : Nat) : intsN (u ++ [b]) = intsN u ++ [(b : Int)] := by simp [intsN]
theorem ints_cell {B g n c k b : Nat} {w : World} {u : List Nat} (h : Int64L B w (.slice (some ⟨g, 0, none⟩) n c) (intsN u)) (hk : u[k]? = some b) : w.cell? ⟨g, k, none⟩ = some (.int .i64 (b : Int)) := by
  have := OwnL.at1 icell_len h (intsN_get hk) (j := 0) rfl
  simpa using this
theorem ints_shape {B : Nat} {w : World} {v : Value} {u : List Nat} (h : Int64L B w v (intsN u)) : ∃ A c, v = .slice A u.length c ∧ (u = [] ∨ ∃ g, A = some ⟨g, 0, none⟩ ∧ B ≤ g ∧ g < w.heap.size) := by
  obtain ⟨A, c, rfl, hA⟩ := h.shape
  refine ⟨A, c, by rw [intsN_len], hA.imp (fun h => ?_) id⟩
  have := congrArg List.length h
  rw [intsN_len] at this
  exact List.eq_nil_of_length_eq_zero this
end Go.Proofs.YthchdbjgjnpooaaDoor
