/- The laws' own helpers over equations: copies, comparison. -/
import Derived.Test.YthchdbjgjnpooaaDoorHEqn
namespace Go.Proofs.YthchdbjgjnpooaaDoor
set_option linter.unusedVariables false
set_option linter.unusedSimpArgs false
open Go.RowKit
def pc (p : Value × Int) : List Value := [p.1, .int .i64 p.2]
theorem pc_len (p : Value × Int) : (pc p).length = 2 := rfl
theorem pc_info : (Tryd.prog.info? 34).map (fun i => (i.zero, i.size, i.bytes)) = some (some (.agg #[.slice none 0 0, .int .i64 0]), 2, 32) := by kernel_rfl
theorem far_set {α : Type} {f : α → List Value} {z : Nat} {e : TypeId} {B g o : Nat} {w : World} {v u : Value} {l : List α} (h : OwnL f z e B w v l) (hg : g < B) : OwnL f z e B (w.setCell ⟨g, o, none⟩ u) v l := by
  refine h.kept (gset (World.grownBy.refl w _) o u) ?_
  cases hv : v.ownBlock with
  | none => exact .inl rfl
  | some q => exact .inr (by intro he; have := (World.ownsRow.lt h q hv).1; injection he with he; omega)
set_option maxHeartbeats 1000000 in
theorem toEqn (bv : Value) (bits : List Int) (r : Int) (w : World) (h : RawL icell 1 w bv bits) (hn : bits.length ≤ 1048576) :
    Calls Tryd.prog 32 #[.agg #[bv, .int .i64 r]] w fun e w' => ∃ A c, e = .returned (.agg #[.slice A bits.length c, .int .i64 r]) ∧ Int64L w.heap.size w' (.slice A bits.length c) bits ∧ Below w.heap.size w w' := by
  have HH := Lib.hid h
  obtain ⟨A, c, rfl, _, _⟩ := h
  go_enter Tryd.func32, Tryd.ntmps32
  go_wp2_with (fail)
  refine (toInt64S bits _ _ (HH.out.below (by repeat (first | exact Below.refl _ _ | refine Below.alloc ?_ (by first | omega | (simp; done) | (simp; omega)) _ | apply Below.drew | apply below_drewN | refine Below.setCell ?_ (by first | omega | (simp; done) | (simp; omega)) _ | refine Below.trans ?_ (Below.mono (by assumption) (by first | omega | (simp; done) | (simp; omega)))))) hn).mono ?_; rintro e w1 ⟨v1, rfl, o1, hb1⟩
  obtain ⟨hc1, hf1⟩ := bcell hb1
  have hz1 : w.heap.size + 3 ≤ w1.heap.size := by have := hb1.size; (try simp at this); omega
  have o2 : Int64L (w.heap.size + 3) w1 v1 bits := by simpa using o1
  clear o1
  obtain ⟨A1, c1, rfl, _⟩ := o2.shape
  go_wp2
  have q0 : w1.cell? ⟨w.heap.size + 1, 0, none⟩ = some (.slice none 0 0) := by rw [hc1 (w.heap.size + 1) 0 (by simp)]; simp [go_sem]
  have q1 : w1.cell? ⟨w.heap.size + 1, 1, none⟩ = some (.int .i64 0) := by rw [hc1 (w.heap.size + 1) 1 (by simp)]; simp [go_sem]
  have ne1 : ∀ x y : Nat, (⟨w.heap.size + 1 + 1, x, none⟩ : Addr) ≠ ⟨w.heap.size + 1, y, none⟩ := fun x y e => by injection e with e1; omega
  have r0 : ((w1.setCell ⟨w.heap.size + 1 + 1, 0, none⟩ (.slice A1 bits.length c1)).setCell ⟨w.heap.size + 1 + 1, 1, none⟩ (.int .i64 r)).cell? ⟨w.heap.size + 1, 0, none⟩ = some (.slice none 0 0) := by
    rw [World.cell?_setCell_other _ _ _ _ (ne1 _ _), World.cell?_setCell_other _ _ _ _ (ne1 _ _)]; exact q0
  have r1 : ((w1.setCell ⟨w.heap.size + 1 + 1, 0, none⟩ (.slice A1 bits.length c1)).setCell ⟨w.heap.size + 1 + 1, 1, none⟩ (.int .i64 r)).cell? ⟨w.heap.size + 1, 1, none⟩ = some (.int .i64 0) := by
    rw [World.cell?_setCell_other _ _ _ _ (ne1 _ _), World.cell?_setCell_other _ _ _ _ (ne1 _ _)]; exact q1
  have s0 := (World.cell?_setCell_other _ _ _ (.int .i64 r) (by simp : (⟨w.heap.size + 1, 1, none⟩ : Addr) ≠ ⟨w.heap.size + 1, 0, none⟩)).trans (World.cell?_setCell_same _ _ (.slice A1 bits.length c1) r0)
  have s1 := World.cell?_setCell_same _ _ (.int .i64 r) ((World.cell?_setCell_other _ _ _ (.slice A1 bits.length c1) (by simp : (⟨w.heap.size + 1, 0, none⟩ : Addr) ≠ ⟨w.heap.size + 1, 1, none⟩)).trans r1)
  have o3 := far_set (g := w.heap.size + 1) (o := 1) (u := .int .i64 r) (far_set (g := w.heap.size + 1) (o := 0) (u := .slice A1 bits.length c1) (far_set (g := w.heap.size + 1 + 1) (o := 1) (u := .int .i64 r) (far_set (g := w.heap.size + 1 + 1) (o := 0) (u := .slice A1 bits.length c1) o2 (by omega)) (by omega)) (by omega)) (by omega)
  refine bodyPost_ret (v := .agg #[.slice A1 bits.length c1, .int .i64 r]) (by simp [results, Tryd.results32, go_sem, s0, s1]; try done) rfl ⟨A1, c1, rfl, OwnL.base o3 (by omega), (by repeat (first | exact Below.refl _ _ | refine Below.alloc ?_ (by first | omega | (simp; done) | (simp; omega)) _ | apply Below.drew | apply below_drewN | refine Below.setCell ?_ (by first | omega | (simp; done) | (simp; omega)) _ | refine Below.trans ?_ (Below.mono (by assumption) (by first | omega | (simp; done) | (simp; omega)))))⟩
set_option maxHeartbeats 2000000 in
theorem toEqnS (l : List Eqn) (v : Value) (w : World) (hr : EqIn w v l) (hn : l.length ≤ 1048576) (hb : ∀ e ∈ l, e.bits.length ≤ 1048576) :
    Calls Tryd.prog 14 #[v] w fun e w' => ∃ v', e = .returned v' ∧ EqOwn w.heap.size w' v' l ∧ Below w.heap.size w w' := by
  obtain ⟨i0, hi, hz0, hz1, hz2⟩ := info_parts pc_info
  obtain ⟨A, c, rfl, hmax, hr⟩ := hr
  rcases hr with rfl | ⟨b, o, rfl, hlt, hc⟩
  · go_enter Tryd.func14, Tryd.ntmps14
    go_wp2_with (at_make; refine wpList_make_full _ rfl _ _ _ rfl w.heap.size 34 i0 (.agg #[.slice none 0 0, .int .i64 0]) 2 Tryd.underlying24 hi hz0 hz1 .i64 .i64 _ _ 0 rfl rfl rfl rfl (by omega) (by unfold maxLen; omega) (Nat.le_refl _) ?_; intro w1 hown hgrow)
    refine wp_loop_once ?_
    go_wp2
    go_ret
    exact ⟨_, rfl, ⟨_, _, rfl, .inl rfl⟩, (Below.refl _ _).grown hgrow (Nat.le_refl _) (by simp)⟩
  · have HC := Lib.hid hc
    clear hc
    go_enter Tryd.func14, Tryd.ntmps14
    go_wp2_with (at_make; refine wpList_make_full _ rfl _ _ _ rfl w.heap.size 34 i0 (.agg #[.slice none 0 0, .int .i64 0]) 2 Tryd.underlying24 hi hz0 hz1 .i64 .i64 _ _ l.length rfl rfl rfl rfl (by rw [hz2]; omega) (by unfold maxLen; omega) (Nat.le_refl _) ?_; intro w1 hown hgrow)
    have hb0 : Below w.heap.size w w1 := (Below.refl _ _).grown hgrow (Nat.le_refl _) (by simp)
    rw [made_flat (f := pc) pc_len (by omega) ((.slice none 0 0, 0) : Value × Int) (Value.agg #[.slice none 0 0, .int .i64 0]).cells rfl] at hown
    clear hgrow
    go_loopw [4] (fun i wr => ∃ (k : Nat) (pl : List (Value × Int)), k ≤ l.length ∧ i = .int .i64 k ∧ pl.length = k ∧ Below w.heap.size w wr ∧ (∀ (j : Nat) (e : Eqn), j < k → l[j]? = some e → ∃ bv, pl[j]? = some (bv, e.right) ∧ Int64L (w.heap.size + 1) wr bv e.bits) ∧ wr.ownsRow w.heap.size 34 2 (.slice (some ⟨w.heap.size, 0, none⟩) l.length l.length) l.length (flat pc (pl ++ List.replicate (l.length - k) ((.slice none 0 0, 0) : Value × Int)))) (fun i _ => l.length - (intOf i).toNat)
    case atStart => exact ⟨0, [], by omega, rfl, rfl, hb0, fun j e hj => by omega, by simpa using hown⟩
    case round =>
      obtain ⟨k, pl, hk, rfl, hpl, hbw, hin, how⟩ := hrel
      clear hown hb0
      by_cases hltk : k < l.length
      · obtain ⟨e, he⟩ : ∃ e, l[k]? = some e := ⟨l[k]'(by omega), List.getElem?_eq_getElem (by omega)⟩
        have hz : w.heap.size ≤ wr.heap.size := hbw.size
        have hg : w.heap.size < wr.heap.size := (how.lt _ rfl).2
        obtain ⟨bv, h1, h2, h3⟩ := HC.out k e he
        have p0 := (hbw.cell (p := ⟨b, _, none⟩) hlt).trans h1
        have p1 := (hbw.cell (p := ⟨b, _, none⟩) hlt).trans h3
        have ht := toEqn bv e.bits e.right wr (h2.below hbw) (hb e (List.mem_of_getElem? he))
        obtain ⟨A2, c2, rfl, _, _⟩ := h2
        have HO := Lib.hid how
        have HIN := Lib.hid hin
        have HE := Lib.hid he
        have hgk : (pl ++ List.replicate (l.length - k) ((.slice none 0 0, 0) : Value × Int))[k]? = some ((.slice none 0 0, 0) : Value × Int) := by
          rw [List.getElem?_append_right (by omega), hpl, Nat.sub_self, List.getElem?_replicate, if_pos (by omega)]
        have HGK := Lib.hid hgk
        clear how hin h1 h3 he hgk
        go_wp2_with (fail)
        refine ht.mono ?_; rintro e' w1 ⟨A3, c3, rfl, o3, hb1⟩
        have HO1 := Lib.hid (World.ownsRow.kept HO.out (grown_of_below hb1 none) (by simp [Value.ownBlock]))
        have q0 : w1.cell? ⟨w.heap.size, k * 2, none⟩ = some (.slice none 0 0) := (HO1.out.cellAt (k * 2 + 0) (by omega)).trans (flat_get pc_len HGK.out (j := 0) (by omega))
        have q1 : w1.cell? ⟨w.heap.size, k * 2 + 1, none⟩ = some (.int .i64 0) := (HO1.out.cellAt (k * 2 + 1) (by omega)).trans (flat_get pc_len HGK.out (j := 1) (by omega))
        have z0 := fun j => HO1.out.frozenAt j
        have hz1' := hb1.size
        have hfl := flat_len pc_len (pl ++ List.replicate (l.length - k) ((.slice none 0 0, 0) : Value × Int))
        have hll : (pl ++ List.replicate (l.length - k) ((.slice none 0 0, 0) : Value × Int)).length = l.length := by simp; omega
        have HO2 := Lib.hid (own_put2 (o := k * 2) HO1.out (.slice A3 e.bits.length c3) (.int .i64 e.right) (by rw [hfl, hll]; omega))
        have hput := flat_put pc_len (pl ++ List.replicate (l.length - k) ((.slice none 0 0, 0) : Value × Int)) k ((.slice A3 e.bits.length c3, e.right) : Value × Int) (by rw [hll]; exact hltk)
        have hset : (pl ++ List.replicate (l.length - k) ((.slice none 0 0, 0) : Value × Int)).set k ((.slice A3 e.bits.length c3, e.right) : Value × Int) = (pl ++ [(.slice A3 e.bits.length c3, e.right)]) ++ List.replicate (l.length - (k + 1)) ((.slice none 0 0, 0) : Value × Int) := by
          rw [List.set_append_right _ _ (by omega), hpl, Nat.sub_self, show l.length - k = (l.length - (k + 1)) + 1 by omega, List.replicate_succ, List.set_cons_zero, List.append_assoc]; rfl
        have HP := Lib.hid (hput.trans (congrArg (flat pc) hset))
        have HNEW : Hid (∀ (j : Nat) (e'' : Eqn), j < k + 1 → l[j]? = some e'' → ∃ bv, (pl ++ [(.slice A3 e.bits.length c3, e.right)])[j]? = some (bv, e''.right) ∧ Int64L (w.heap.size + 1) ((w1.setCell ⟨w.heap.size, k * 2, none⟩ (.slice A3 e.bits.length c3)).setCell ⟨w.heap.size, k * 2 + 1, none⟩ (.int .i64 e.right)) bv e''.bits) := Lib.hid (fun j e'' hj hl => by
          by_cases hjk : j < k
          · obtain ⟨bv, h1, h2⟩ := HIN.out j e'' hjk hl
            exact ⟨bv, by rw [List.getElem?_append_left (by omega)]; exact h1, far_set (far_set (OwnL.below h2 hb1) (by omega)) (by omega)⟩
          · obtain rfl : j = k := by omega
            have hee := HE.out
            rw [hl] at hee
            obtain rfl : e'' = e := by simpa using hee
            exact ⟨_, by rw [List.getElem?_append_right (by omega), hpl, Nat.sub_self]; rfl, far_set (far_set (OwnL.base o3 (by omega)) (by omega)) (by omega)⟩)
        clear hfl hll hput hset ht
        go_wp2
        go_roundw
        case rel => exact ⟨k + 1, pl ++ [(.slice A3 e.bits.length c3, e.right)], by omega, by go_num, by simp; omega, (by repeat (first | exact Below.refl _ _ | refine Below.alloc ?_ (by first | omega | (simp; done) | (simp; omega)) _ | apply Below.drew | apply below_drewN | refine Below.setCell ?_ (by first | omega | (simp; done) | (simp; omega)) _ | refine Below.trans ?_ (Below.mono (by assumption) (by first | omega | (simp; done) | (simp; omega))))), HNEW.out, by rw [← HP.out]; exact HO2.out⟩
        case measure => simp [intOf]; omega
      · go_wp2
        go_ret
        refine ⟨_, rfl, ⟨_, _, rfl, .inr ⟨w.heap.size, rfl, Nat.le_refl _, (how.lt _ rfl).2, fun j e hj => ?_⟩⟩, hbw⟩
        obtain ⟨bv, h1, h2⟩ := hin j e (by have := (List.getElem?_eq_some_iff.1 hj).1; omega) hj
        have hjl := (List.getElem?_eq_some_iff.1 hj).1
        have hgj : (pl ++ List.replicate (l.length - k) ((.slice none 0 0, 0) : Value × Int))[j]? = some (bv, e.right) := by rw [List.getElem?_append_left (by omega)]; exact h1
        exact ⟨bv, (how.cellAt (j * 2 + 0) (by omega)).trans (flat_get pc_len hgj (j := 0) (by omega)), OwnL.base h2 (by omega), (how.cellAt (j * 2 + 1) (by omega)).trans (flat_get pc_len hgj (j := 1) (by omega))⟩
end Go.Proofs.YthchdbjgjnpooaaDoor
