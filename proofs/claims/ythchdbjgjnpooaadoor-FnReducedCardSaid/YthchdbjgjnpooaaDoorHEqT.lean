/- Equations made by a call, each part in a block of its own. -/
import Derived.Test.YthchdbjgjnpooaaDoorHEqn3
import Derived.Test.YthchdbjgjnpooaaDoorRwL
namespace Go.Proofs.YthchdbjgjnpooaaDoor
set_option linter.unusedVariables false
set_option linter.unusedSimpArgs false
open Go.RowKit
def epc (p : Eqn × Value) : List Value := [p.2, .int .i64 p.1.right]
theorem epc_len (p : Eqn × Value) : (epc p).length = 2 := rfl
/-- no two parts lie in one block -/
def Split (pl : List (Eqn × Value)) : Prop := ∀ (j j' : Nat) (p p' : Eqn × Value) (b : Nat), pl[j]? = some p → pl[j']? = some p' → p.2.ownBlock = some b → p'.2.ownBlock = some b → j = j'
theorem Split.nil : Split [] := fun j j' p p' b h => by simp at h
theorem Split.snoc {pl : List (Eqn × Value)} {e : Eqn} {bv : Value} {n : Nat} (h : Split pl) (h1 : ∀ (j : Nat) (p : Eqn × Value), pl[j]? = some p → ∀ b, p.2.ownBlock = some b → b < n) (h2 : ∀ b, bv.ownBlock = some b → n ≤ b) : Split (pl ++ [(e, bv)]) := by
  intro j j' p p' b hp hp' hb hb'
  have hl := (List.getElem?_eq_some_iff.1 hp).1
  have hl' := (List.getElem?_eq_some_iff.1 hp').1
  simp at hl hl'
  by_cases hj : j < pl.length
  · rw [List.getElem?_append_left hj] at hp
    by_cases hj' : j' < pl.length
    · rw [List.getElem?_append_left hj'] at hp'
      exact h j j' p p' b hp hp' hb hb'
    · rw [List.getElem?_append_right (by omega), show j' - pl.length = 0 by omega] at hp'
      obtain rfl : (e, bv) = p' := by simpa using hp'
      have := h1 j p hp b hb
      have := h2 b hb'
      omega
  · by_cases hj' : j' < pl.length
    · rw [List.getElem?_append_left hj'] at hp'
      rw [List.getElem?_append_right (by omega), show j - pl.length = 0 by omega] at hp
      obtain rfl : (e, bv) = p := by simpa using hp
      have := h1 j' p' hp' b hb'
      have := h2 b hb
      omega
    · omega
/-- the parts pl, made by the call from block B on and below block E -/
structure EqT (B E : Nat) (w : World) (v : Value) (pl : List (Eqn × Value)) : Prop where
  row : OwnL epc 2 34 B w v pl
  lt : ∀ g, v.ownBlock = some g → g < E
  parts : ∀ (j : Nat) (p : Eqn × Value), pl[j]? = some p → Int64L B w p.2 p.1.bits ∧ ∀ b, p.2.ownBlock = some b → b < E ∧ v.ownBlock ≠ some b
  split : Split pl
theorem EqT.nil (B E : Nat) (w : World) : EqT B E w (.slice none 0 0) [] := ⟨OwnL.of_nil, fun g h => by simp [Value.ownBlock] at h, fun j p h => by simp at h, Split.nil⟩
theorem OwnL.chgk {α : Type} {f : α → List Value} {z : Nat} {e : TypeId} {B B' E' : Nat} {w w' : World} {v : Value} {l : List α} (h : OwnL f z e B w v l) (hc : Chg B' E' w w') (hd : ∀ g, v.ownBlock = some g → ¬ (B' ≤ g ∧ g < E')) : OwnL f z e B w' v l := by
  refine ⟨h.1, ?_⟩
  rcases h.2 with hn | ⟨g, cap, cur, rfl, hbg, hh, rest⟩
  · exact .inl hn
  · exact .inr ⟨g, cap, cur, rfl, hbg, (hc.block g (Array.getElem?_eq_some_iff.1 hh).1 (hd g rfl)).trans hh, rest⟩
theorem EqT.chg {B E B' E' : Nat} {w w' : World} {v : Value} {pl : List (Eqn × Value)} (h : EqT B E w v pl) (hc : Chg B' E' w w') (hd : E ≤ B' ∨ E' ≤ B) : EqT B E w' v pl :=
  ⟨h.row.chgk hc fun g hg => by have := h.lt g hg; have := (h.row.lt g hg).1; omega, h.lt, fun j p hp => ⟨(h.parts j p hp).1.chgk hc fun g hg => by have := ((h.parts j p hp).2 g hg).1; have := ((h.parts j p hp).1.lt g hg).1; omega, (h.parts j p hp).2⟩, h.split⟩
theorem EqT.below {B E : Nat} {w w' : World} {v : Value} {pl : List (Eqn × Value)} (h : EqT B E w v pl) (hb : Below w.heap.size w w') : EqT B E w' v pl :=
  h.chg (Chg.of_below (B := E) (E := E) hb) (.inl (Nat.le_refl _))
theorem EqT.mono {B E E' : Nat} {w : World} {v : Value} {pl : List (Eqn × Value)} (h : EqT B E w v pl) (hE : E ≤ E') : EqT B E' w v pl :=
  ⟨h.row, fun g hg => Nat.lt_of_lt_of_le (h.lt g hg) hE, fun j p hp => ⟨(h.parts j p hp).1, fun b hb => ⟨Nat.lt_of_lt_of_le ((h.parts j p hp).2 b hb).1 hE, ((h.parts j p hp).2 b hb).2⟩⟩, h.split⟩
/-- one more equation: its row is appended behind its bits -/
theorem EqT.snoc {B : Nat} {w w8 : World} {v v' bv : Value} {pl : List (Eqn × Value)} {e : Eqn} {n : Nat} (h : EqT B n w v pl) (hn : n ≤ w.heap.size) (hbv : Int64L B w bv e.bits) (hbn : ∀ b, bv.ownBlock = some b → n ≤ b)
    (how : OwnL epc 2 34 B w8 v' (pl ++ [(e, bv)])) (hg : w.grownBy w8 v.ownBlock) (hbl : v'.ownBlock = v.ownBlock ∨ v'.ownBlock = some w.heap.size) : EqT B w8.heap.size w8 v' (pl ++ [(e, bv)]) := by
  have hz := hg.size
  have hold : ∀ (j : Nat) (p : Eqn × Value), pl[j]? = some p → Int64L B w8 p.2 p.1.bits ∧ ∀ b, p.2.ownBlock = some b → b < w8.heap.size ∧ v'.ownBlock ≠ some b := fun j p hp => by
    obtain ⟨k1, k2⟩ := h.parts j p hp
    refine ⟨k1.kept hg ?_, fun b hb => ?_⟩
    · cases hob : p.2.ownBlock with
      | none => exact .inl rfl
      | some b => exact .inr fun he => (k2 b hob).2 he.symm
    · obtain ⟨h1, h2⟩ := k2 b hb
      have := (k1.lt b hb).2
      refine ⟨by omega, fun he => ?_⟩
      rcases hbl with h3 | h3
      · rw [h3] at he; exact h2 he
      · rw [h3] at he; have := Option.some.inj he; omega
  refine ⟨how, fun g hg' => (how.lt g hg').2, fun j p hp => ?_, h.split.snoc (fun j p hp b hb => ((h.parts j p hp).2 b hb).1) hbn⟩
  by_cases hj : j < pl.length
  · rw [List.getElem?_append_left hj] at hp
    exact hold j p hp
  · have hl := (List.getElem?_eq_some_iff.1 hp).1
    simp at hl
    rw [List.getElem?_append_right (by omega), show j - pl.length = 0 by omega] at hp
    obtain rfl : (e, bv) = p := by simpa using hp
    have hvb : ∀ b, bv.ownBlock = some b → v.ownBlock ≠ some b := fun b hb he => by
      have := hbn b hb; have := h.lt b he; omega
    refine ⟨hbv.kept hg ?_, fun b hb => ?_⟩
    · cases hob : bv.ownBlock with
      | none => exact .inl rfl
      | some b => exact .inr fun he => hvb b hob he.symm
    · have h1 := (hbv.lt b hb).2
      refine ⟨by show b < _; omega, fun he => ?_⟩
      rcases hbl with h3 | h3
      · rw [h3] at he; exact hvb b hb he
      · rw [h3] at he; have := Option.some.inj he; omega
def EqTree (B E : Nat) (w : World) (v : Value) (l : List Eqn) : Prop := ∃ pl : List (Eqn × Value), pl.map Prod.fst = l ∧ EqT B E w v pl
theorem EqTree.own {B E : Nat} {w : World} {v : Value} {l : List Eqn} (h : EqTree B E w v l) : EqOwn B w v l := by
  obtain ⟨pl, rfl, h⟩ := h
  obtain ⟨A, c, rfl, hA⟩ := h.row.shape
  refine ⟨A, c, by simp, ?_⟩
  rcases hA with hA | ⟨g, rfl, hB, hg⟩
  · exact .inl (by rw [hA]; rfl)
  · refine .inr ⟨g, rfl, hB, hg, fun k e hk => ?_⟩
    rw [List.getElem?_map] at hk
    obtain ⟨p, hp, rfl⟩ := Option.map_eq_some_iff.1 hk
    have h0 := OwnL.cell epc_len h.row hp (j := 0) rfl
    have h1 := OwnL.cell epc_len h.row hp (j := 1) rfl
    exact ⟨p.2, by simpa using h0, (h.parts k p hp).1, h1⟩
/-- equations marked from k on -/
def mkE : Nat → List Eqn → List Eqn
  | _, [] => []
  | k, e :: l => ⟨icellMs k e.bits.length, ((k + e.bits.length : Nat) : Int)⟩ :: mkE (k + (e.bits.length + 1)) l
def cntE (l : List Eqn) : Nat := (l.map fun e => e.bits.length + 1).foldr (· + ·) 0
theorem cntE_cons (e : Eqn) (l : List Eqn) : cntE (e :: l) = e.bits.length + 1 + cntE l := rfl
theorem cntE_drop {l : List Eqn} {k : Nat} {e : Eqn} (he : l[k]? = some e) : cntE (l.drop k) = e.bits.length + 1 + cntE (l.drop (k + 1)) := by
  obtain ⟨h, rfl⟩ := List.getElem?_eq_some_iff.1 he
  rw [List.drop_eq_getElem_cons h]; rfl
theorem cntE_le (l : List Eqn) : cntE l = l.length + Eqn.wts l := by
  induction l with
  | nil => rfl
  | cons a l ih =>
    have h2 : Eqn.wts (a :: l) = a.bits.length + Eqn.wts l := rfl
    rw [cntE_cons, ih, h2, List.length_cons]; omega
theorem cntE_split (l : List Eqn) (k : Nat) : cntE l = cntE (l.take k) + cntE (l.drop k) := by
  induction l generalizing k with
  | nil => simp [cntE]
  | cons a l ih =>
    cases k with
    | zero => simp [cntE]
    | succ k => rw [List.take_succ_cons, List.drop_succ_cons, cntE_cons, cntE_cons, ih k]; omega
theorem cntE_mkE (k : Nat) (l : List Eqn) : cntE (mkE k l) = cntE l := by
  induction l generalizing k with
  | nil => rfl
  | cons a l ih => rw [mkE, cntE_cons, cntE_cons, ih, icellMs_len]
theorem mkE_len (k : Nat) (l : List Eqn) : (mkE k l).length = l.length := by
  induction l generalizing k with
  | nil => rfl
  | cons a l ih => simp [mkE, ih]
theorem mkE_get {k i : Nat} {l : List Eqn} {e : Eqn} (h : l[i]? = some e) : (mkE k l)[i]? = some ⟨icellMs (k + cntE (l.take i)) e.bits.length, ((k + cntE (l.take i) + e.bits.length : Nat) : Int)⟩ := by
  induction l generalizing k i with
  | nil => simp at h
  | cons a l ih =>
    cases i with
    | zero => simp at h; subst h; simp [mkE, cntE]
    | succ i =>
      simp at h
      rw [mkE, List.getElem?_cons_succ, ih h, List.take_succ_cons, cntE_cons, Nat.add_assoc]
theorem EqT.mark1 {B E g n c k : Nat} {wr w1 : World} {ql : List (Eqn × Value)} {e : Eqn} {bv : Value} {ms : List Int} {r : Int} (h : EqT B E wr (.slice (some ⟨g, 0, none⟩) n c) ql) (hk : ql[k]? = some (e, bv)) (hm : Int64L B w1 bv ms) (hg : wr.grownBy w1 bv.ownBlock) :
    EqT B E (w1.setCell ⟨g, k * 2 + 1, none⟩ (.int .i64 r)) (.slice (some ⟨g, 0, none⟩) n c) (ql.set k (⟨ms, r⟩, bv)) := by
  have hgb : ∀ b, bv.ownBlock = some b → b ≠ g := fun b hb he => ((h.parts k _ hk).2 b hb).2 (by rw [he]; rfl)
  have h1 : OwnL epc 2 34 B w1 (.slice (some ⟨g, 0, none⟩) n c) ql := h.row.kept hg (.inr fun he => hgb g he.symm rfl)
  have hst : ∀ {v : Value} {l : List Int}, Int64L B w1 v l → (∀ b, v.ownBlock = some b → b ≠ g) → Int64L B (w1.setCell ⟨g, k * 2 + 1, none⟩ (.int .i64 r)) v l := fun {v l} h hb => by
    refine h.kept (gset (World.grownBy.refl w1 _) _ _) ?_
    cases hv : v.ownBlock with
    | none => exact .inl rfl
    | some q => exact .inr (by intro he; injection he with he; exact hb q hv he)
  have hpk : ∀ (j : Nat) (p : Eqn × Value), (ql.set k (⟨ms, r⟩, bv))[j]? = some p → (j = k ∧ p = (⟨ms, r⟩, bv)) ∨ (j ≠ k ∧ ql[j]? = some p) := fun j p hp => by
    rw [List.getElem?_set] at hp
    split at hp
    · rename_i e; split at hp
      · exact .inl ⟨e.symm, by simpa using hp.symm⟩
      · cases hp
    · rename_i e; exact .inr ⟨fun h => e h.symm, hp⟩
  have hold : ∀ (j : Nat) (p : Eqn × Value), (ql.set k (⟨ms, r⟩, bv))[j]? = some p → ∃ p0 : Eqn × Value, ql[j]? = some p0 ∧ p0.2 = p.2 := fun j p hp => by
    rcases hpk j p hp with ⟨rfl, rfl⟩ | ⟨_, h⟩
    · exact ⟨_, hk, rfl⟩
    · exact ⟨_, h, rfl⟩
  refine ⟨OwnL.set1 epc_len h1 hk (j := 1) (by omega) rfl, h.lt, fun j p hp => ?_, fun j j' p p' b hp hp' hb hb' => ?_⟩
  · obtain ⟨p0, e1, e2⟩ := hold j p hp
    refine ⟨?_, by rw [← e2]; exact (h.parts j p0 e1).2⟩
    have hne : ∀ b, p.2.ownBlock = some b → b ≠ g := fun b hb he => ((h.parts j p0 e1).2 b (by rw [e2]; exact hb)).2 (by rw [he]; rfl)
    rcases hpk j p hp with ⟨rfl, rfl⟩ | ⟨hj, hq⟩
    · exact hst hm hne
    · refine hst ((h.parts j p hq).1.kept hg ?_) hne
      cases hb : p.2.ownBlock with
      | none => exact .inl rfl
      | some q => exact .inr fun he => hj (h.split j k p (e, bv) q hq hk hb he.symm)
  · obtain ⟨p0, e1, e2⟩ := hold j p hp
    obtain ⟨p1, e3, e4⟩ := hold j' p' hp'
    exact h.split j j' p0 p1 b e1 e3 (by rw [e2]; exact hb) (by rw [e4]; exact hb')
theorem eqs_end {B E : Nat} {w : World} {v : Value} {pl ql : List (Eqn × Value)} {k0 : Nat} (h : EqT B E w v ql) (hl : ql.length = pl.length) (hm : ∀ (j : Nat) (p : Eqn × Value), j < pl.length → pl[j]? = some p → ql[j]? = some (⟨icellMs (k0 + cntE ((pl.map Prod.fst).take j)) p.1.bits.length, ((k0 + cntE ((pl.map Prod.fst).take j) + p.1.bits.length : Nat) : Int)⟩, p.2)) : EqTree B E w v (mkE k0 (pl.map Prod.fst)) := by
  refine ⟨ql, List.ext_getElem? fun j => ?_, h⟩
  by_cases hj : j < pl.length
  · have hp := List.getElem?_eq_getElem hj
    rw [List.getElem?_map, hm j _ hj hp, mkE_get (e := pl[j].1) (by rw [List.getElem?_map, hp]; rfl)]; rfl
  · rw [List.getElem?_eq_none (by simp; omega), List.getElem?_eq_none (by rw [mkE_len]; simp; omega)]
end Go.Proofs.YthchdbjgjnpooaaDoor
