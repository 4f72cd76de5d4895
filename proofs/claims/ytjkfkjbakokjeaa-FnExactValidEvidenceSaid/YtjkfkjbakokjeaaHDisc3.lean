/- The laws' own helpers over discs: copies of lists, comparison. -/
import Derived.Test.YtjkfkjbakokjeaaHDisc2
namespace Go.Proofs.Ytjkfkjbakokjeaa
set_option linter.unusedVariables false
open Go.RowKit
theorem own_put5 {α : Type} {f : α → List Value} {e : TypeId} {B g n c : Nat} {w : World} {xs : List Value} {z o : Nat} (h : w.ownsRow B e z (.slice (some ⟨g, 0, none⟩) n c) n xs) (a b d d' d'' : Value) (hl : o + 4 < xs.length) :
    (((((w.setCell ⟨g, o, none⟩ a).setCell ⟨g, o + 1, none⟩ b).setCell ⟨g, o + 2, none⟩ d).setCell ⟨g, o + 3, none⟩ d').setCell ⟨g, o + 4, none⟩ d'').ownsRow B e z (.slice (some ⟨g, 0, none⟩) n c) n (putAt xs o [a, b, d, d', d'']) :=
  own_next (cs := [a, b, d, d']) (own_put4 h a b d d' (by omega)) d'' hl
def dz : Dsc × Value := (⟨0, 0, 0, 0, []⟩, .slice none 0 0)
set_option maxHeartbeats 4000000 in
theorem toDscS (l : List Dsc) (v : Value) (w : World) (hr : DscIn w v l) (hn : l.length ≤ 1048576) (hb : ∀ e ∈ l, e.secs.length ≤ 1048576) :
    Calls Try.prog 47 #[v] w fun e w' => ∃ v', e = .returned v' ∧ DscOwn w.heap.size w' v' l ∧ Below w.heap.size w w' := by
  obtain ⟨i0, hi, hz0, hz1, hz2⟩ := info_parts dpc_info
  obtain ⟨A, c, rfl, hmax, hr⟩ := hr
  rcases hr with rfl | ⟨b, o, rfl, hlt, hc⟩
  · go_enter Try.func47, Try.ntmps47
    go_wp2_with (at_make; refine wpList_make_full _ rfl _ _ _ rfl w.heap.size 46 i0 (.agg #[.int .i64 0, .int .i64 0, .int .i64 0, .int .i64 0, .slice none 0 0]) 5 Try.underlying57 hi hz0 hz1 .i64 .i64 _ _ 0 rfl rfl rfl rfl (by omega) (by unfold maxLen; omega) (Nat.le_refl _) ?_; intro w1 hown hgrow)
    refine wp_loop_once ?_
    go_wp2
    go_ret
    exact ⟨_, rfl, ⟨_, _, rfl, .inl rfl⟩, (Below.refl _ _).grown hgrow (Nat.le_refl _) (by simp)⟩
  · have HC := Lib.hid hc
    clear hc
    go_enter Try.func47, Try.ntmps47
    go_wp2_with (at_make; refine wpList_make_full _ rfl _ _ _ rfl w.heap.size 46 i0 (.agg #[.int .i64 0, .int .i64 0, .int .i64 0, .int .i64 0, .slice none 0 0]) 5 Try.underlying57 hi hz0 hz1 .i64 .i64 _ _ l.length rfl rfl rfl rfl (by rw [hz2]; omega) (by unfold maxLen; omega) (Nat.le_refl _) ?_; intro w1 hown hgrow)
    have hb0 : Below w.heap.size w w1 := (Below.refl _ _).grown hgrow (Nat.le_refl _) (by simp)
    rw [made_flat (f := dpc) dpc_len (by omega) dz (Value.agg #[.int .i64 0, .int .i64 0, .int .i64 0, .int .i64 0, .slice none 0 0]).cells rfl] at hown
    clear hgrow
    go_loopw [4] (fun i wr => ∃ (k : Nat) (pl : List (Dsc × Value)), k ≤ l.length ∧ i = .int .i64 k ∧ pl.length = k ∧ Below w.heap.size w wr ∧ (∀ (j : Nat) (e : Dsc), j < k → l[j]? = some e → ∃ bv, pl[j]? = some (e, bv) ∧ SecOwn (w.heap.size + 1) wr bv e.secs) ∧ wr.ownsRow w.heap.size 46 5 (.slice (some ⟨w.heap.size, 0, none⟩) l.length l.length) l.length (flat dpc (pl ++ List.replicate (l.length - k) dz))) (fun i _ => l.length - (intOf i).toNat)
    case atStart => exact ⟨0, [], by omega, rfl, rfl, hb0, fun j e hj => by omega, by simpa using hown⟩
    case round =>
      obtain ⟨k, pl, hk, rfl, hpl, hbw, hin, how⟩ := hrel
      clear hown hb0
      by_cases hltk : k < l.length
      · obtain ⟨e, he⟩ : ∃ e, l[k]? = some e := ⟨l[k]'(by omega), List.getElem?_eq_getElem (by omega)⟩
        have hz : w.heap.size ≤ wr.heap.size := hbw.size
        have hg : w.heap.size < wr.heap.size := (how.lt _ rfl).2
        obtain ⟨bv, h1, h2⟩ := HC.out k e he
        have p0 := (hbw.cell (p := ⟨b, _, none⟩) hlt).trans (h2 0 _ rfl)
        have p1 := (hbw.cell (p := ⟨b, _, none⟩) hlt).trans (h2 1 _ rfl)
        have p2 := (hbw.cell (p := ⟨b, _, none⟩) hlt).trans (h2 2 _ rfl)
        have p3 := (hbw.cell (p := ⟨b, _, none⟩) hlt).trans (h2 3 _ rfl)
        have p4 := (hbw.cell (p := ⟨b, _, none⟩) hlt).trans (h2 4 _ rfl)
        simp only [Nat.add_zero] at p0
        have ht := toDsc e bv wr (h1.below hbw) (hb e (List.mem_of_getElem? he))
        obtain ⟨⟨A2, c2, rfl, _, _⟩, _⟩ := h1
        have HO := Lib.hid how
        have HIN := Lib.hid hin
        have HE := Lib.hid he
        have hgk : (pl ++ List.replicate (l.length - k) dz)[k]? = some dz := by
          rw [List.getElem?_append_right (by omega), hpl, Nat.sub_self, List.getElem?_replicate, if_pos (by omega)]
        have HGK := Lib.hid hgk
        clear how hin h2 he hgk
        go_wp2_with (fail)
        refine ht.mono ?_; rintro e' w1 ⟨A3, c3, rfl, o3, hb1⟩
        have HO1 := Lib.hid (World.ownsRow.kept HO.out (grown_of_below hb1 none) (by simp [Value.ownBlock]))
        have Q := fun (j : Nat) (hj : j < 5) => (HO1.out.cellAt (k * 5 + j) (by omega)).trans (flat_get dpc_len HGK.out (j := j) hj)
        have q0 : w1.cell? ⟨w.heap.size, k * 5, none⟩ = some (.int .i64 0) := Q 0 (by omega)
        have q1 : w1.cell? ⟨w.heap.size, k * 5 + 1, none⟩ = some (.int .i64 0) := Q 1 (by omega)
        have q2 : w1.cell? ⟨w.heap.size, k * 5 + 2, none⟩ = some (.int .i64 0) := Q 2 (by omega)
        have q3 : w1.cell? ⟨w.heap.size, k * 5 + 3, none⟩ = some (.int .i64 0) := Q 3 (by omega)
        have q4 : w1.cell? ⟨w.heap.size, k * 5 + 4, none⟩ = some (.slice none 0 0) := Q 4 (by omega)
        have z0 := fun j => HO1.out.frozenAt j
        have hz1' := hb1.size
        have hfl := flat_len dpc_len (pl ++ List.replicate (l.length - k) dz)
        have hll : (pl ++ List.replicate (l.length - k) dz).length = l.length := by simp; omega
        have HO2 := Lib.hid (own_put5 (α := Dsc × Value) (f := dpc) (o := k * 5) HO1.out (.int .i64 e.cyl) (.int .i64 e.heads) (.int .i64 e.per) (.int .i64 e.size) (.slice A3 e.secs.length c3) (by rw [hfl, hll]; omega))
        have hput := flat_put dpc_len (pl ++ List.replicate (l.length - k) dz) k ((e, .slice A3 e.secs.length c3) : Dsc × Value) (by rw [hll]; exact hltk)
        have hset : (pl ++ List.replicate (l.length - k) dz).set k ((e, .slice A3 e.secs.length c3) : Dsc × Value) = (pl ++ [(e, .slice A3 e.secs.length c3)]) ++ List.replicate (l.length - (k + 1)) dz := by
          rw [List.set_append_right _ _ (by omega), hpl, Nat.sub_self, show l.length - k = (l.length - (k + 1)) + 1 by omega, List.replicate_succ, List.set_cons_zero, List.append_assoc]; rfl
        have HP := Lib.hid (hput.trans (congrArg (flat dpc) hset))
        have HNEW : Hid (∀ (j : Nat) (e'' : Dsc), j < k + 1 → l[j]? = some e'' → ∃ bv, (pl ++ [(e, .slice A3 e.secs.length c3)])[j]? = some (e'', bv) ∧ SecOwn (w.heap.size + 1) (set5 w1 w.heap.size (k * 5) (.int .i64 e.cyl) (.int .i64 e.heads) (.int .i64 e.per) (.int .i64 e.size) (.slice A3 e.secs.length c3)) bv e''.secs) := Lib.hid (fun j e'' hj hl => by
          by_cases hjk : j < k
          · obtain ⟨bv, h1, h2⟩ := HIN.out j e'' hjk hl
            exact ⟨bv, by rw [List.getElem?_append_left (by omega)]; exact h1, far_set5 (OwnL.below h2 hb1) (by omega)⟩
          · obtain rfl : j = k := by omega
            have hee := HE.out
            rw [hl] at hee
            obtain rfl : e'' = e := by simpa using hee
            exact ⟨_, by rw [List.getElem?_append_right (by omega), hpl, Nat.sub_self]; rfl, far_set5 (OwnL.base o3 (by omega)) (by omega)⟩)
        have hle : w.heap.size ≤ w.heap.size := Nat.le_refl _
        have HB := Lib.hid (Below.setCell (Below.setCell (Below.setCell (Below.setCell (Below.setCell (hbw.trans (hb1.mono hz)) (p := ⟨w.heap.size, k * 5, none⟩) hle (.int .i64 e.cyl)) (p := ⟨w.heap.size, k * 5 + 1, none⟩) hle (.int .i64 e.heads)) (p := ⟨w.heap.size, k * 5 + 2, none⟩) hle (.int .i64 e.per)) (p := ⟨w.heap.size, k * 5 + 3, none⟩) hle (.int .i64 e.size)) (p := ⟨w.heap.size, k * 5 + 4, none⟩) hle (.slice A3 e.secs.length c3))
        clear hfl hll hput hset ht Q
        go_wp2
        go_roundw
        case rel => exact ⟨k + 1, pl ++ [(e, .slice A3 e.secs.length c3)], by omega, by go_num, by simp; omega, HB.out, HNEW.out, by rw [← HP.out]; exact HO2.out⟩
        case measure => simp [intOf]; omega
      · go_wp2
        go_ret
        refine ⟨_, rfl, ⟨_, _, rfl, .inr ⟨w.heap.size, rfl, Nat.le_refl _, (how.lt _ rfl).2, fun j e hj => ?_⟩⟩, hbw⟩
        obtain ⟨bv, h1, h2⟩ := hin j e (by have := (List.getElem?_eq_some_iff.1 hj).1; omega) hj
        have hjl := (List.getElem?_eq_some_iff.1 hj).1
        have hgj : (pl ++ List.replicate (l.length - k) dz)[j]? = some (e, bv) := by rw [List.getElem?_append_left (by omega)]; exact h1
        refine ⟨bv, OwnL.base h2 (by omega), fun i u hu => ?_⟩
        have hi5 : i < 5 := by have := (List.getElem?_eq_some_iff.1 hu).1; simpa [Dsc.ints] using this
        exact (how.cellAt (j * 5 + i) (by omega)).trans ((flat_get dpc_len hgj (j := i) hi5).trans hu)
end Go.Proofs.Ytjkfkjbakokjeaa
