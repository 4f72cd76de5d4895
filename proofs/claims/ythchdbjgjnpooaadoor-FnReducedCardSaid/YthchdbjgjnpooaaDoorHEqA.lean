/- The laws' own helper over equations: a copy, each part in a block of its own. -/
import Derived.Test.YthchdbjgjnpooaaDoorHEqM
namespace Go.Proofs.YthchdbjgjnpooaaDoor
set_option linter.unusedVariables false
set_option linter.unusedSimpArgs false
open Go.RowKit
theorem take_next {α : Type} {l : List α} {k : Nat} {e : α} (h : l[k]? = some e) : l.take (k + 1) = l.take k ++ [e] := by
  rw [List.take_add_one, h]; rfl
set_option maxRecDepth 20000 in
set_option maxHeartbeats 2000000 in
theorem toEqnT (l : List Eqn) (v : Value) (w : World) (hr : EqIn w v l) (hn : l.length ≤ 1048576) (hb : ∀ e ∈ l, e.bits.length ≤ 1048576) :
    Calls Tryd.prog 14 #[v] w fun e w' => ∃ v', e = .returned v' ∧ EqTree w.heap.size w'.heap.size w' v' l ∧ Below w.heap.size w w' := by
  obtain ⟨i0, hi, hz0, hz1, hz2⟩ := info_parts pc_info
  obtain ⟨A, c, rfl, hmax, hr⟩ := hr
  rcases hr with rfl | ⟨b, o, rfl, hlt, hc⟩
  · go_enter Tryd.func14, Tryd.ntmps14
    go_wp2_with (at_make; refine wpList_make_full _ rfl _ _ _ rfl w.heap.size 34 i0 (.agg #[.slice none 0 0, .int .i64 0]) 2 Tryd.underlying24 hi hz0 hz1 .i64 .i64 _ _ 0 rfl rfl rfl rfl (by omega) (by unfold maxLen; omega) (Nat.le_refl _) ?_; intro w1 hown hgrow)
    refine wp_loop_once ?_
    go_wp2
    go_ret
    have hlt1 := (hown.lt _ rfl).2
    rw [made_flat (f := epc) epc_len (by omega) ((⟨[], 0⟩, .slice none 0 0) : Eqn × Value) (Value.agg #[.slice none 0 0, .int .i64 0]).cells rfl] at hown
    exact ⟨_, rfl, ⟨[], rfl, hown, fun g hg => (hown.lt g hg).2, fun j p h => by simp at h, Split.nil⟩, (Below.refl _ _).grown hgrow (Nat.le_refl _) (by simp)⟩
  · have HC := Lib.hid hc
    clear hc
    go_enter Tryd.func14, Tryd.ntmps14
    go_wp2_with (at_make; refine wpList_make_full _ rfl _ _ _ rfl w.heap.size 34 i0 (.agg #[.slice none 0 0, .int .i64 0]) 2 Tryd.underlying24 hi hz0 hz1 .i64 .i64 _ _ l.length rfl rfl rfl rfl (by rw [hz2]; omega) (by unfold maxLen; omega) (Nat.le_refl _) ?_; intro w1 hown hgrow)
    have hb0 : Below w.heap.size w w1 := (Below.refl _ _).grown hgrow (Nat.le_refl _) (by simp)
    rw [made_flat (f := epc) epc_len (by omega) ((⟨[], 0⟩, .slice none 0 0) : Eqn × Value) (Value.agg #[.slice none 0 0, .int .i64 0]).cells rfl] at hown
    clear hgrow
    go_loopw [4] (fun i wr => ∃ (k : Nat) (pl : List (Eqn × Value)), k ≤ l.length ∧ i = .int .i64 k ∧ pl.length = k ∧ Below w.heap.size w wr ∧ Hid (pl.map Prod.fst = l.take k) ∧ Hid (∀ (j : Nat) (p : Eqn × Value), pl[j]? = some p → Int64L (w.heap.size + 1) wr p.2 p.1.bits) ∧ Hid (Split pl) ∧ wr.ownsRow w.heap.size 34 2 (.slice (some ⟨w.heap.size, 0, none⟩) l.length l.length) l.length (flat epc (pl ++ List.replicate (l.length - k) ((⟨[], 0⟩, .slice none 0 0) : Eqn × Value)))) (fun i _ => l.length - (intOf i).toNat)
    case atStart => exact ⟨0, [], by omega, rfl, rfl, hb0, Lib.hid rfl, Lib.hid fun j p h => by simp at h, Lib.hid Split.nil, by simpa using hown⟩
    case round =>
      obtain ⟨k, pl, hk, rfl, hpl, hbw, HM, HIN, HSP, how⟩ := hrel
      clear hown hb0
      by_cases hltk : k < l.length
      · obtain ⟨e, he⟩ : ∃ e, l[k]? = some e := ⟨l[k]'(by omega), List.getElem?_eq_getElem (by omega)⟩
        have hz : w.heap.size ≤ wr.heap.size := hbw.size
        have hg : w.heap.size < wr.heap.size := (how.lt _ rfl).2
        obtain ⟨bv, h1, h2, h3⟩ := HC.out k e he
        have p0 := (hbw.cell (p := ⟨b, _, none⟩) hlt).trans h1
        have p1 := (hbw.cell (p := ⟨b, _, none⟩) hlt).trans h3
        have ht := toEqn bv e.bits e.right wr (h2.below hbw) (hb e (List.mem_of_getElem? he))
        obtain ⟨A2, c2, rfl, _, _⟩ := h2
        have HO := Lib.hid how
        have HE := Lib.hid he
        have hgk : (pl ++ List.replicate (l.length - k) ((⟨[], 0⟩, .slice none 0 0) : Eqn × Value))[k]? = some ((⟨[], 0⟩, .slice none 0 0) : Eqn × Value) := by
          rw [List.getElem?_append_right (by omega), hpl, Nat.sub_self, List.getElem?_replicate, if_pos (by omega)]
        have HGK := Lib.hid hgk
        clear how h1 h3 he hgk
        go_wp2_with (fail)
        refine ht.mono ?_; rintro e' w1 ⟨A3, c3, rfl, o3, hb1⟩
        have HO1 := Lib.hid (World.ownsRow.kept HO.out (grown_of_below hb1 none) (by simp [Value.ownBlock]))
        have q0 : w1.cell? ⟨w.heap.size, k * 2, none⟩ = some (.slice none 0 0) := (HO1.out.cellAt (k * 2 + 0) (by omega)).trans (flat_get epc_len HGK.out (j := 0) (by omega))
        have q1 : w1.cell? ⟨w.heap.size, k * 2 + 1, none⟩ = some (.int .i64 0) := (HO1.out.cellAt (k * 2 + 1) (by omega)).trans (flat_get epc_len HGK.out (j := 1) (by omega))
        have z0 := fun j => HO1.out.frozenAt j
        have hz1' := hb1.size
        have hfl := flat_len epc_len (pl ++ List.replicate (l.length - k) ((⟨[], 0⟩, .slice none 0 0) : Eqn × Value))
        have hll : (pl ++ List.replicate (l.length - k) ((⟨[], 0⟩, .slice none 0 0) : Eqn × Value)).length = l.length := by simp; omega
        have HO2 := Lib.hid (own_put2 (o := k * 2) HO1.out (.slice A3 e.bits.length c3) (.int .i64 e.right) (by rw [hfl, hll]; omega))
        have hput := flat_put epc_len (pl ++ List.replicate (l.length - k) ((⟨[], 0⟩, .slice none 0 0) : Eqn × Value)) k ((e, .slice A3 e.bits.length c3) : Eqn × Value) (by rw [hll]; exact hltk)
        have hset : (pl ++ List.replicate (l.length - k) ((⟨[], 0⟩, .slice none 0 0) : Eqn × Value)).set k ((e, .slice A3 e.bits.length c3) : Eqn × Value) = (pl ++ [(e, .slice A3 e.bits.length c3)]) ++ List.replicate (l.length - (k + 1)) ((⟨[], 0⟩, .slice none 0 0) : Eqn × Value) := by
          rw [List.set_append_right _ _ (by omega), hpl, Nat.sub_self, show l.length - k = (l.length - (k + 1)) + 1 by omega, List.replicate_succ, List.set_cons_zero, List.append_assoc]; rfl
        have HP := Lib.hid (hput.trans (congrArg (flat epc) hset))
        have HNEW : Hid (∀ (j : Nat) (p : Eqn × Value), (pl ++ [((e, .slice A3 e.bits.length c3) : Eqn × Value)])[j]? = some p → Int64L (w.heap.size + 1) ((w1.setCell ⟨w.heap.size, k * 2, none⟩ (.slice A3 e.bits.length c3)).setCell ⟨w.heap.size, k * 2 + 1, none⟩ (.int .i64 e.right)) p.2 p.1.bits) := Lib.hid (fun j p hj => by
          by_cases hjk : j < k
          · rw [List.getElem?_append_left (by omega)] at hj
            exact far_set (far_set (OwnL.below (HIN.out j p hj) hb1) (by omega)) (by omega)
          · have hjl := (List.getElem?_eq_some_iff.1 hj).1
            simp at hjl
            obtain rfl : j = k := by omega
            rw [List.getElem?_append_right (by omega), hpl, Nat.sub_self] at hj
            obtain rfl : (e, Value.slice A3 e.bits.length c3) = p := by simpa using hj
            exact far_set (far_set (OwnL.base o3 (by omega)) (by omega)) (by omega))
        have HS2 : Hid (Split (pl ++ [((e, .slice A3 e.bits.length c3) : Eqn × Value)])) := Lib.hid (HSP.out.snoc (n := wr.heap.size) (fun j p hp b hb => ((HIN.out j p hp).lt b hb).2) (fun b hb => (World.ownsRow.lt o3 b hb).1))
        have HM2 : Hid ((pl ++ [((e, .slice A3 e.bits.length c3) : Eqn × Value)]).map Prod.fst = l.take (k + 1)) := Lib.hid (by rw [List.map_append, HM.out, take_next HE.out]; rfl)
        clear hfl hll hput hset ht o3
        go_wp2
        go_roundw
        case rel => exact ⟨k + 1, pl ++ [(e, .slice A3 e.bits.length c3)], by omega, by go_num, by simp; omega, (by repeat (first | exact Below.refl _ _ | refine Below.alloc ?_ (by first | omega | (simp; done) | (simp; omega)) _ | apply Below.drew | apply below_drewN | refine Below.setCell ?_ (by first | omega | (simp; done) | (simp; omega)) _ | refine Below.trans ?_ (Below.mono (by assumption) (by first | omega | (simp; done) | (simp; omega))))), HM2, HNEW, HS2, by rw [← HP.out]; exact HO2.out⟩
        case measure => simp [intOf]; omega
      · obtain rfl : k = l.length := by omega
        have HO := Lib.hid how
        clear how
        go_wp2
        go_ret
        have how := HO.out
        rw [Nat.sub_self, List.replicate_zero, List.append_nil] at how
        have hrow : OwnL epc 2 34 w.heap.size wr (.slice (some ⟨w.heap.size, 0, none⟩) l.length l.length) pl := by unfold OwnL; rw [hpl]; exact how
        refine ⟨_, rfl, ⟨pl, by rw [HM.out, List.take_length], hrow, fun g hg => (World.ownsRow.lt hrow g hg).2, fun j p hp => ⟨OwnL.base (HIN.out j p hp) (by omega), fun b hb => ⟨((HIN.out j p hp).lt b hb).2, fun he => ?_⟩⟩, HSP.out⟩, hbw⟩
        have h1 := ((HIN.out j p hp).lt b hb).1
        simp [Value.ownBlock] at he
        omega
theorem r_szEqS (l : List Eqn) (v : Value) (x0 : Int) (w : World) (h : REqS.raw w v l) (hx : 0 ≤ x0 ∧ x0 ≤ 1048576) :
    Calls Tryd.prog 12 #[v, .int .i64 x0] w fun e w' => e = .returned (.int .i64 (szR x0 (REqS.wt l))) ∧ Below w.heap.size w w' := szEqnS l v x0 w h hx
theorem r_toEqS (l : List Eqn) (v : Value) (w : World) (h : REqS.raw w v l) (hn : REqS.wt l ≤ 1048576) :
    Calls Tryd.prog 14 #[v] w fun e w' => REqS.ret w l e w' :=
  toEqnT l v w h (Nat.le_trans (Nat.le_add_right _ _) hn) fun e he => by have := Eqn.wts_le he; have : l.length + Eqn.wts l ≤ 1048576 := hn; omega
end Go.Proofs.YthchdbjgjnpooaaDoor
