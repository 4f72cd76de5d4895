/- Equations: marks, and what is held. -/
import Derived.Test.YthchdbjgjnpooaaDoorHEqT
namespace Go.Proofs.YthchdbjgjnpooaaDoor
set_option linter.unusedVariables false
set_option linter.unusedSimpArgs false
open Go.RowKit
set_option maxRecDepth 20000 in
set_option maxHeartbeats 4000000 in
theorem markEqnS (l : List Eqn) (v : Value) (k0 B E : Nat) (w : World) (h : EqTree B E w v l) (hn : l.length + Eqn.wts l ≤ 8388608) (h0 : 1 ≤ k0) (hk0 : k0 ≤ 33554432) :
    Calls Tryd.prog 16 #[v, .int .i64 k0] w fun e w' => e = .returned (.int .i64 ((k0 + cntE l : Nat) : Int)) ∧ EqTree B E w' v (mkE k0 l) ∧ Chg B E w w' := by
  obtain ⟨pl, rfl, h⟩ := h
  have hcl := cntE_le (pl.map Prod.fst)
  rw [List.length_map] at hcl
  obtain ⟨A, c, rfl, hA⟩ := h.row.shape
  by_cases hl0 : pl = []
  · subst hl0
    go_enter Tryd.func16, Tryd.ntmps16
    go_wp2
    refine wp_loop_once ?_
    go_wp2
    go_ret
    exact ⟨by simp [cntE], ⟨[], rfl, h⟩, Chg.of_below (Below.refl _ _)⟩
  obtain ⟨g, rfl, hBg, hg⟩ := hA.resolve_left hl0
  have hgE := h.lt g rfl
  have HH := Lib.hid h
  clear h hA hl0
  simp only [List.length_map] at hn
  go_enter Tryd.func16, Tryd.ntmps16
  go_wp2
  go_loopw [5, 1] (fun i m wr => ∃ (k x : Nat) (ql : List (Eqn × Value)), k ≤ pl.length ∧ i = .int .i64 k ∧ m = .int .i64 (x : Int) ∧ Hid (x = k0 + cntE ((pl.map Prod.fst).take k)) ∧ Hid (ql.length = pl.length) ∧ Hid (EqT B E wr (.slice (some ⟨g, 0, none⟩) pl.length c) ql) ∧ Chg B E w wr ∧ Hid (∀ (j : Nat), k ≤ j → ql[j]? = pl[j]?) ∧ Hid (∀ (j : Nat) (p : Eqn × Value), j < k → pl[j]? = some p → ql[j]? = some (⟨icellMs (k0 + cntE ((pl.map Prod.fst).take j)) p.1.bits.length, ((k0 + cntE ((pl.map Prod.fst).take j) + p.1.bits.length : Nat) : Int)⟩, p.2))) (fun i _ _ => pl.length - (intOf i).toNat)
  case atStart => exact ⟨0, k0, pl, by omega, rfl, rfl, Lib.hid (by simp [cntE]), Lib.hid rfl, HH, Chg.of_below (Below.refl _ _), Lib.hid fun _ _ => rfl, Lib.hid fun j p hj => by omega⟩
  case round =>
    clear HH
    obtain ⟨k, x, ql, hk, rfl, rfl, HX, HQL, HT, hc, HA, HB⟩ := hrel
    by_cases hltk : k < pl.length
    · obtain ⟨p, hp⟩ : ∃ p, pl[k]? = some p := ⟨pl[k], List.getElem?_eq_getElem hltk⟩
      obtain ⟨e, bv⟩ := p
      have hqk : ql[k]? = some (e, bv) := (HA.out k (Nat.le_refl _)).trans hp
      have hd := cntE_drop (l := pl.map Prod.fst) (k := k) (e := e) (by rw [List.getElem?_map, hp]; rfl)
      have hs := cntE_split (pl.map Prod.fst) k
      have hs1 := cntE_split (pl.map Prod.fst) (k + 1)
      have hx := HX.out
      have hbl : e.bits.length ≤ 8388608 := by omega
      have q0 : wr.cell? ⟨g, k * 2, none⟩ = some bv := by have := OwnL.at1 epc_len HT.out.row hqk (j := 0) rfl; simpa using this
      have hpk : Int64L B wr bv e.bits ∧ ∀ b, bv.ownBlock = some b → b < E ∧ (Value.slice (some ⟨g, 0, none⟩) pl.length c).ownBlock ≠ some b := HT.out.parts k _ hqk
      have HMK := Lib.hid (markInt64S e.bits bv x B wr hpk.1 hbl (by omega) (by omega))
      have HQ := Lib.hid hqk
      have HP := Lib.hid hp
      have hlb := hpk.1.lt
      have hbE := hpk.2
      obtain ⟨A2, c2, rfl, _⟩ := OwnL.shape hpk.1
      have hgw : g < wr.heap.size := (HT.out.row.lt g rfl).2
      have HXX : Hid (x + e.bits.length + 1 = k0 + cntE ((pl.map Prod.fst).take (k + 1))) := Lib.hid (by omega)
      have hxs : x + e.bits.length ≤ 41943040 := by omega
      clear hp hqk hpk hd hs hs1 hx hcl
      go_wp2_with (fail)
      refine HMK.out.mono ?_; rintro e' w1 ⟨rfl, o2, hg2⟩
      have HT1 := Lib.hid (EqT.mark1 (r := ((x + e.bits.length : Nat) : Int)) HT.out HQ.out o2 hg2)
      have hrow1 := HT.out.row.kept hg2 (.inr fun he => (hbE g he.symm).2 rfl)
      have q1 : w1.cell? ⟨g, k * 2 + 1, none⟩ = some (.int .i64 e.right) := OwnL.at1 epc_len hrow1 HQ.out (j := 1) rfl
      have z1 := OwnL.frozen (j := k * 2 + 1) hrow1
      have hc1 : Chg B E w w1 := hc.trans (Chg.of_grown hg2 fun b hb => ⟨(hlb b hb).1, (hbE b hb).1⟩)
      have hc2 : Chg B E w (w1.setCell ⟨g, k * 2 + 1, none⟩ (.int .i64 ((x + e.bits.length : Nat) : Int))) := hc1.trans (Chg.of_grown (gset (World.grownBy.refl w1 (some g)) _ _) fun b hb => by injection hb with hb; omega)
      clear hrow1 o2 hg2 hc1 hc HT
      go_wp2
      go_roundw
      case rel => exact ⟨k + 1, x + e.bits.length + 1, ql.set k (⟨icellMs x e.bits.length, ((x + e.bits.length : Nat) : Int)⟩, .slice A2 e.bits.length c2), by omega, by go_num, by congr 1, HXX, Lib.hid (by rw [List.length_set]; exact HQL.out), HT1, hc2, Lib.hid fun j hj => by rw [List.getElem?_set_ne (by omega)]; exact HA.out j (by omega), Lib.hid fun j p hj hp => by
        by_cases e1 : j = k
        · subst e1
          have e2 := HP.out.symm.trans hp
          obtain rfl : (e, Value.slice A2 e.bits.length c2) = p := by simpa using e2
          rw [List.getElem?_set_self (by rw [HQL.out]; omega), ← HX.out]
        · rw [List.getElem?_set_ne (Ne.symm e1)]; exact HB.out j p (by omega) hp⟩
      case measure => simp [intOf]; omega
    · obtain rfl : k = pl.length := by omega
      have hxe : Hid (x = k0 + cntE (pl.map Prod.fst)) := Lib.hid (by rw [HX.out, List.take_of_length_le (by simp)])
      go_wp2
      go_ret
      exact ⟨ret_int (by rw [hxe.out]), eqs_end HT.out HQL.out HB.out, hc⟩
set_option maxRecDepth 20000 in
set_option maxHeartbeats 4000000 in
theorem heldEqnS (l : List Eqn) (v : Value) (k0 B E : Nat) (w : World) (h : EqTree B E w v (mkE k0 l)) (hn : l.length + Eqn.wts l ≤ 8388608) (h0 : 1 ≤ k0) (hk0 : k0 ≤ 33554432) :
    Calls Tryd.prog 17 #[v, .int .i64 k0] w fun e w' => e = .returned (.int .i64 ((k0 + cntE l : Nat) : Int)) ∧ Below w.heap.size w w' := by
  have hcl := cntE_le l
  have hml := mkE_len k0 l
  obtain ⟨A, c, hv, hA⟩ := h.own
  rw [hml] at hv
  subst hv
  by_cases hl0 : l = []
  · subst hl0
    go_enter Tryd.func17, Tryd.ntmps17
    go_wp2
    refine wp_loop_once ?_
    go_wp2
    go_ret
    exact ⟨by simp [cntE], Below.refl _ _⟩
  obtain ⟨g, rfl, hBg, hg, hcc⟩ := hA.resolve_left (by intro e; rw [e] at hml; exact hl0 (List.eq_nil_of_length_eq_zero hml.symm))
  have HC := Lib.hid hcc
  have hn' : cntE l ≤ 8388608 := by omega
  clear h hA hl0 hcc hml hcl
  go_enter Tryd.func17, Tryd.ntmps17
  go_wp2
  go_loopw [5, 1] (fun i m wr => ∃ (k x : Nat), k ≤ l.length ∧ i = .int .i64 k ∧ m = .int .i64 (x : Int) ∧ Hid (x = k0 + cntE (l.take k)) ∧ Below w.heap.size w wr) (fun i _ _ => l.length - (intOf i).toNat)
  case atStart => exact ⟨0, k0, by omega, rfl, rfl, Lib.hid (by simp [cntE]), Below.refl _ _⟩
  case round =>
    obtain ⟨k, x, hk, rfl, rfl, HX, hb⟩ := hrel
    have zr := hb.size
    by_cases hltk : k < l.length
    · obtain ⟨e, he⟩ : ∃ e, l[k]? = some e := ⟨l[k], List.getElem?_eq_getElem hltk⟩
      have hd := cntE_drop he
      have hs := cntE_split l k
      have hs1 := cntE_split l (k + 1)
      have hx := HX.out
      obtain ⟨bv, a1, a2, a3⟩ := HC.out k _ (mkE_get he)
      rw [← hx] at a2 a3
      have q0 := (hb.cell (p := ⟨g, _, none⟩) hg).trans a1
      have q1 := (hb.cell (p := ⟨g, _, none⟩) hg).trans a3
      have HH := Lib.hid (heldInt64S e.bits.length bv x B wr (OwnL.below a2 hb) (by omega) (by omega) (by omega))
      obtain ⟨A2, c2, rfl, _⟩ := OwnL.shape a2
      have HXX : Hid (x + e.bits.length + 1 = k0 + cntE (l.take (k + 1))) := Lib.hid (by omega)
      have hxs : x + e.bits.length ≤ 41943040 := by omega
      clear a1 a2 a3 he hd hs hs1 hx
      go_wp2_with (fail)
      refine HH.out.mono ?_; rintro e' w1 ⟨rfl, hb1⟩
      have q2 := (hb1.cell (p := ⟨g, k * 2 + 1, none⟩) (by show g < _; omega)).trans q1
      have hb01 := hb.trans (hb1.mono zr)
      have hpos : decide (((x + e.bits.length : Nat) : Int) < 0) = false := decide_eq_false (by omega)
      go_wp2
      go_roundw
      case rel => exact ⟨k + 1, x + e.bits.length + 1, by omega, by go_num, by congr 1, HXX, hb01⟩
      case measure => simp [intOf]; omega
    · obtain rfl : k = l.length := by omega
      have hxe : Hid (x = k0 + cntE l) := Lib.hid (by rw [HX.out, List.take_of_length_le (by simp)])
      go_wp2
      go_ret
      exact ⟨ret_int (by rw [hxe.out]), hb⟩
def REqS : Rep (List Eqn) where
  own B E w v l := EqTree B E w v l
  raw w v l := EqIn w v l
  wt l := l.length + Eqn.wts l
  cnt l := cntE l
  mark k l := mkE k l
  chg := fun ⟨pl, h1, h2⟩ hc hd => ⟨pl, h1, h2.chg hc hd⟩
  rawk := fun h hb => h.below hb
theorem eqs_bl {l : List Eqn} {n : Nat} (q : cntE l ≤ n) : l.length ≤ n ∧ ∀ e ∈ l, e.bits.length ≤ n := by
  rw [cntE_le] at q
  exact ⟨by omega, fun e he => by have := Eqn.wts_le he; omega⟩
theorem r_eqEqS (l : List Eqn) (va vb : Value) (B E B' E' : Nat) (w : World) (ha : REqS.own B E w va l) (hb : REqS.own B' E' w vb l) (hn : REqS.cnt l ≤ 8388608) :
    Calls Tryd.prog 15 #[va, vb] w fun e w' => e = .returned (.bool true) ∧ Below w.heap.size w w' :=
  eqEqnS l va vb B B' w ha.own hb.own (eqs_bl hn).1 (eqs_bl hn).2
theorem r_markEqS (l : List Eqn) (v : Value) (k0 B E : Nat) (w : World) (h : REqS.own B E w v l) (hn : REqS.cnt l ≤ 8388608) (h0 : 1 ≤ k0) (hk : k0 ≤ 33554432) :
    Calls Tryd.prog 16 #[v, .int .i64 k0] w fun e w' => REqS.marked B E w v k0 l e w' :=
  markEqnS l v k0 B E w h (by rw [← cntE_le]; exact hn) h0 hk
theorem r_heldEqS (l : List Eqn) (v : Value) (k0 B E : Nat) (w : World) (h : REqS.own B E w v (REqS.mark k0 l)) (hn : REqS.cnt l ≤ 8388608) (h0 : 1 ≤ k0) (hk : k0 ≤ 33554432) :
    Calls Tryd.prog 17 #[v, .int .i64 k0] w fun e w' => e = .returned (.int .i64 ((k0 + REqS.cnt l : Nat) : Int)) ∧ Below w.heap.size w w' :=
  heldEqnS l v k0 B E w h (by rw [← cntE_le]; exact hn) h0 hk
end Go.Proofs.YthchdbjgjnpooaaDoor
