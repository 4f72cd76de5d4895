/- The helpers of the laws over impl.Entry: sizes, copies, comparison, marks. Printed by gen_flat.py. -/
import Derived.Test.YtkcdemjflbnhbaaOwn
import Derived.Test.YtkcdemjflbnhbaaMark
import Derived.Test.YtkcdemjflbnhbaaChain
namespace Go.Proofs.Ytkcdemjflbnhbaa
open Go.RowKit

theorem Ent.len (e : Ent) : e.cells.length = 4 := rfl
def Ent.wt (e : Ent) : Nat := e.verb.size
def Ent.wts (l : List Ent) : Nat := (l.map Ent.wt).foldr (· + ·) 0
theorem Ent.wts_drop {l : List Ent} {k : Nat} {e : Ent} (he : l[k]? = some e) : Ent.wts (l.drop k) = Ent.wt e + Ent.wts (l.drop (k + 1)) := by
  obtain ⟨h, rfl⟩ := List.getElem?_eq_some_iff.1 he
  rw [List.drop_eq_getElem_cons h]; rfl
theorem Ent.info : (Try.prog.info? 49).map (fun i => (i.zero, i.size, i.bytes)) = some (some (.agg #[.string .empty, .int .i64 0, .int .i64 0, .int .i64 0]), 4, 40) := by kernel_rfl
def Ent.zero : Ent := ⟨.empty, 0, 0, 0⟩
instance : Inhabited Ent := ⟨Ent.zero⟩

set_option maxHeartbeats 1000000 in
theorem szEntry (e : Ent) (x : Int) (w : World) (h0 : 0 ≤ x ∧ x ≤ 1048576) (m_verb : e.verb.size ≤ maxLen) :
    Calls Try.prog 36 #[.agg #[.string e.verb, .int .i64 e.before, .int .i64 e.after, .int .i64 e.chain], .int .i64 x] w fun e' w' => e' = .returned (.int .i64 (szR x e.wt)) ∧ Below w.heap.size w w' := by
  obtain ⟨h0, h0'⟩ := h0
  unfold maxLen at m_verb
  go_enter Try.func36, Try.ntmps36
  go_wp2
  all_goals (go_ret; refine ⟨ret_int ?_, (by repeat (first | exact Below.refl _ _ | refine Below.alloc ?_ (by first | omega | (simp; done) | (simp; omega)) _ | apply Below.drew | apply below_drewN | refine Below.setCell ?_ (by first | omega | (simp; done) | (simp; omega)) _ | refine Below.trans ?_ (Below.mono (by assumption) (by first | omega | (simp; done) | (simp; omega)))))⟩; unfold Ent.wt; first | (rw [szR_yes (by omega)]; done) | (rw [szR_yes (by omega)]; omega) | (rw [szR_no (by omega)]))

theorem szR_step_no {left : Int} {n m k : Nat} {x : Int} (H : Hid (szR left n = szR x m)) (hk : k ≤ m) (hx : szR x k < 0) : szR left n = -1 := by
  have := szR_neg.1 hx
  rw [H.out, szR_no (by omega)]
theorem szR_step_yes {left : Int} {n m m' k : Nat} {x : Int} (H : Hid (szR left n = szR x m)) (hk : m = k + m') (hx : 0 ≤ szR x k) : Hid (szR left n = szR (szR x k) m') := by
  have := szR_pos.1 hx
  refine Lib.hid ?_
  rw [H.out, szR_yes this, hk]
  unfold szR
  split <;> split <;> omega
theorem szR_le {x : Int} {k : Nat} (h : x ≤ 1048576) : szR x k ≤ 1048576 := by unfold szR; split <;> omega
set_option maxHeartbeats 2000000 in
theorem szEntryS (l : List Ent) (v : Value) (w : World) (hr : RawL Ent.cells 4 w v l) (hm : ∀ e ∈ l, e.verb.size ≤ maxLen) :
    Calls Try.prog 13 #[v, .int .i64 1048576] w fun e w' => e = .returned (.int .i64 (szR 1048576 (l.length + Ent.wts l))) ∧ Below w.heap.size w w' := by
  obtain ⟨A, c, rfl, hmax, hr⟩ := hr
  unfold maxLen at hmax
  by_cases hlen : (l.length : Int) ≤ 1048576
  · rcases hr with rfl | ⟨b, o, rfl, hlt, hc⟩
    · go_enter Try.func13, Try.ntmps13
      go_wp2
      refine wp_loop_once ?_
      go_wp2
      go_ret
      exact ⟨rfl, (by repeat (first | exact Below.refl _ _ | refine Below.alloc ?_ (by first | omega | (simp; done) | (simp; omega)) _ | apply Below.drew | apply below_drewN | refine Below.setCell ?_ (by first | omega | (simp; done) | (simp; omega)) _ | refine Below.trans ?_ (Below.mono (by assumption) (by first | omega | (simp; done) | (simp; omega)))))⟩
    · go_enter Try.func13, Try.ntmps13
      go_wp2
      go_loopw [5, 1] (fun i left wr => ∃ (k : Nat) (x : Int), k ≤ l.length ∧ i = .int .i64 k ∧ left = .int .i64 x ∧ (0 ≤ x ∧ x ≤ 1048576) ∧ Below w.heap.size w wr ∧ Hid (szR 1048576 (l.length + Ent.wts l) = szR x (Ent.wts (l.drop k)))) (fun i _ _ => l.length - (intOf i).toNat)
      case atStart => exact ⟨0, _, by omega, rfl, rfl, by omega, (by repeat (first | exact Below.refl _ _ | refine Below.alloc ?_ (by first | omega | (simp; done) | (simp; omega)) _ | apply Below.drew | apply below_drewN | refine Below.setCell ?_ (by first | omega | (simp; done) | (simp; omega)) _ | refine Below.trans ?_ (Below.mono (by assumption) (by first | omega | (simp; done) | (simp; omega))))), Lib.hid (by simp only [List.drop_zero]; unfold szR; split <;> split <;> omega)⟩
      case round =>
        obtain ⟨k, x, hk, rfl, rfl, hx, hb, HK⟩ := hrel
        by_cases hltk : k < l.length
        · obtain ⟨e, he⟩ : ∃ e, l[k]? = some e := ⟨l[k]'(by omega), List.getElem?_eq_getElem (by omega)⟩
          have HW := Lib.hid (Ent.wts_drop he)
          have p0 := (hb.cell (p := ⟨b, _, none⟩) hlt).trans (hc k e 0 _ he rfl)
          have p1 := (hb.cell (p := ⟨b, _, none⟩) hlt).trans (hc k e 1 _ he rfl)
          have p2 := (hb.cell (p := ⟨b, _, none⟩) hlt).trans (hc k e 2 _ he rfl)
          have p3 := (hb.cell (p := ⟨b, _, none⟩) hlt).trans (hc k e 3 _ he rfl)
          simp only [Nat.add_zero] at p0
          have hz : w.heap.size ≤ wr.heap.size := hb.size
          clear hc
          go_wp2_with (first | (go_at_call 36; refine (szEntry e x _ hx (hm e (List.mem_of_getElem? he))).mono ?_; rintro e' w1 ⟨rfl, hb1⟩))
          · have hneg : szR x e.wt < 0 := by assumption
            go_ret
            exact ⟨ret_int (szR_step_no HK (by rw [HW.out]; omega) hneg).symm, (by repeat (first | exact Below.refl _ _ | refine Below.alloc ?_ (by first | omega | (simp; done) | (simp; omega)) _ | apply Below.drew | apply below_drewN | refine Below.setCell ?_ (by first | omega | (simp; done) | (simp; omega)) _ | refine Below.trans ?_ (Below.mono (by assumption) (by first | omega | (simp; done) | (simp; omega)))))⟩
          · have hpos : 0 ≤ szR x e.wt := by assumption
            go_roundw
            case rel => exact ⟨k + 1, _, by omega, by go_num, rfl, ⟨hpos, szR_le hx.2⟩, (by repeat (first | exact Below.refl _ _ | refine Below.alloc ?_ (by first | omega | (simp; done) | (simp; omega)) _ | apply Below.drew | apply below_drewN | refine Below.setCell ?_ (by first | omega | (simp; done) | (simp; omega)) _ | refine Below.trans ?_ (Below.mono (by assumption) (by first | omega | (simp; done) | (simp; omega))))), szR_step_yes HK HW.out hpos⟩
            case measure => simp [intOf]; omega
        · have hxp : szR x (Ent.wts (l.drop k)) = x := by rw [List.drop_of_length_le (by omega)]; exact (szR_yes (by show ((0 : Nat) : Int) ≤ x; omega)).trans (by show x - ((0 : Nat) : Int) = x; omega)
          have HX := Lib.hid hxp
          clear hxp hc
          go_wp2
          go_ret
          exact ⟨ret_int (by rw [HK.out, HX.out]), (by repeat (first | exact Below.refl _ _ | refine Below.alloc ?_ (by first | omega | (simp; done) | (simp; omega)) _ | apply Below.drew | apply below_drewN | refine Below.setCell ?_ (by first | omega | (simp; done) | (simp; omega)) _ | refine Below.trans ?_ (Below.mono (by assumption) (by first | omega | (simp; done) | (simp; omega)))))⟩
  · go_enter Try.func13, Try.ntmps13
    go_wp2
    go_ret
    exact ⟨ret_int (by rw [szR_no (by omega)]), (by repeat (first | exact Below.refl _ _ | refine Below.alloc ?_ (by first | omega | (simp; done) | (simp; omega)) _ | apply Below.drew | apply below_drewN | refine Below.setCell ?_ (by first | omega | (simp; done) | (simp; omega)) _ | refine Below.trans ?_ (Below.mono (by assumption) (by first | omega | (simp; done) | (simp; omega)))))⟩

set_option maxHeartbeats 1000000 in
theorem toEntry (e : Ent) (w : World) :
    Calls Try.prog 38 #[.agg #[.string e.verb, .int .i64 e.before, .int .i64 e.after, .int .i64 e.chain]] w fun e' w' => e' = .returned (.agg #[.string e.verb, .int .i64 e.before, .int .i64 e.after, .int .i64 e.chain]) ∧ Below w.heap.size w w' := by
  go_enter Try.func38, Try.ntmps38
  go_wp2
  exact bodyPost_ret (v := .agg #[.string e.verb, .int .i64 e.before, .int .i64 e.after, .int .i64 e.chain]) (by simp [results, Try.results38, go_sem]) rfl ⟨rfl, (by repeat (first | exact Below.refl _ _ | refine Below.alloc ?_ (by first | omega | (simp; done) | (simp; omega)) _ | apply Below.drew | apply below_drewN | refine Below.setCell ?_ (by first | omega | (simp; done) | (simp; omega)) _ | refine Below.trans ?_ (Below.mono (by assumption) (by first | omega | (simp; done) | (simp; omega)))))⟩

set_option maxHeartbeats 2000000 in
theorem toEntryS (l : List Ent) (v : Value) (w : World) (hr : RawL Ent.cells 4 w v l) (hn : l.length ≤ 1048576) :
    Calls Try.prog 15 #[v] w fun e w' => RetL Ent.cells 4 49 w l e w' := by
  obtain ⟨i0, hi, hz0, hz1, hz2⟩ := info_parts Ent.info
  obtain ⟨A, c, rfl, hmax, hr⟩ := hr
  rcases hr with rfl | ⟨b, o, rfl, hlt, hc⟩
  · go_enter Try.func15, Try.ntmps15
    go_wp2_with (at_make; refine wpList_make_full _ rfl _ _ _ rfl w.heap.size 49 i0 (.agg #[.string .empty, .int .i64 0, .int .i64 0, .int .i64 0]) 4 Try.underlying26 hi hz0 hz1 .i64 .i64 _ _ 0 rfl rfl rfl rfl (by omega) (by unfold maxLen; omega) (Nat.le_refl _) ?_; intro w1 hown hgrow)
    refine wp_loop_once ?_
    go_wp2
    go_ret
    refine ⟨_, rfl, ?_, (Below.refl _ _).grown hgrow (Nat.le_refl _) (by simp)⟩
    rw [made_flat (f := Ent.cells) Ent.len (by omega) Ent.zero (Value.agg #[.string .empty, .int .i64 0, .int .i64 0, .int .i64 0]).cells rfl] at hown
    exact hown
  · go_enter Try.func15, Try.ntmps15
    go_wp2_with (at_make; refine wpList_make_full _ rfl _ _ _ rfl w.heap.size 49 i0 (.agg #[.string .empty, .int .i64 0, .int .i64 0, .int .i64 0]) 4 Try.underlying26 hi hz0 hz1 .i64 .i64 _ _ l.length rfl rfl rfl rfl (by rw [hz2]; omega) (by unfold maxLen; omega) (Nat.le_refl _) ?_; intro w1 hown hgrow)
    have hb0 : Below w.heap.size w w1 := (Below.refl _ _).grown hgrow (Nat.le_refl _) (by simp)
    rw [made_flat (f := Ent.cells) Ent.len (by omega) Ent.zero (Value.agg #[.string .empty, .int .i64 0, .int .i64 0, .int .i64 0]).cells rfl] at hown
    clear hgrow
    go_loopw [4] (fun i wr => ∃ k : Nat, k ≤ l.length ∧ i = .int .i64 k ∧ Below w.heap.size w wr ∧ wr.ownsRow w.heap.size 49 4 (.slice (some ⟨w.heap.size, 0, none⟩) l.length l.length) l.length (flat Ent.cells (l.take k ++ List.replicate (l.length - k) Ent.zero))) (fun i _ => l.length - (intOf i).toNat)
    case atStart => exact ⟨0, by omega, rfl, hb0, by simpa using hown⟩
    case round =>
      obtain ⟨k, hk, rfl, hb, how⟩ := hrel
      clear hown hb0
      by_cases hltk : k < l.length
      · obtain ⟨e, he⟩ : ∃ e, l[k]? = some e := ⟨l[k]'(by omega), List.getElem?_eq_getElem (by omega)⟩
        have hz : w.heap.size ≤ wr.heap.size := hb.size
        have hg : w.heap.size < wr.heap.size := (how.lt _ rfl).2
        have p0 := (hb.cell (p := ⟨b, _, none⟩) hlt).trans (hc k e 0 _ he rfl)
        have p1 := (hb.cell (p := ⟨b, _, none⟩) hlt).trans (hc k e 1 _ he rfl)
        have p2 := (hb.cell (p := ⟨b, _, none⟩) hlt).trans (hc k e 2 _ he rfl)
        have p3 := (hb.cell (p := ⟨b, _, none⟩) hlt).trans (hc k e 3 _ he rfl)
        simp only [Nat.add_zero] at p0
        clear hc
        have HO := Lib.hid how
        clear how
        go_wp2_with (go_at_call 38; refine (toEntry e _).mono ?_; rintro e' w1 ⟨rfl, hb1⟩; have HO1 := Lib.hid (World.ownsRow.kept HO.out (grown_of_below hb1 none) (by simp [Value.ownBlock])); have q0 : w1.cell? ⟨w.heap.size, k * 4, none⟩ = some (.string .empty) := (HO1.out.cellAt (k * 4 + 0) (by omega)).trans (flat_get Ent.len (fill_get l k Ent.zero hltk) (j := 0) (by omega)); have q1 : w1.cell? ⟨w.heap.size, k * 4 + 1, none⟩ = some (.int .i64 0) := (HO1.out.cellAt (k * 4 + 1) (by omega)).trans (flat_get Ent.len (fill_get l k Ent.zero hltk) (j := 1) (by omega)); have q2 : w1.cell? ⟨w.heap.size, k * 4 + 2, none⟩ = some (.int .i64 0) := (HO1.out.cellAt (k * 4 + 2) (by omega)).trans (flat_get Ent.len (fill_get l k Ent.zero hltk) (j := 2) (by omega)); have q3 : w1.cell? ⟨w.heap.size, k * 4 + 3, none⟩ = some (.int .i64 0) := (HO1.out.cellAt (k * 4 + 3) (by omega)).trans (flat_get Ent.len (fill_get l k Ent.zero hltk) (j := 3) (by omega)); have z0 := fun j => HO1.out.frozenAt j; have hz1 : w.heap.size < w1.heap.size := Nat.lt_of_lt_of_le hg hb1.size)
        go_roundw
        case rel => exact ⟨k + 1, by omega, by go_num, (by repeat (first | exact Below.refl _ _ | refine Below.alloc ?_ (by first | omega | (simp; done) | (simp; omega)) _ | apply Below.drew | apply below_drewN | refine Below.setCell ?_ (by first | omega | (simp; done) | (simp; omega)) _ | refine Below.trans ?_ (Below.mono (by assumption) (by first | omega | (simp; done) | (simp; omega))))), by rw [← fill_set l k Ent.zero e he, ← flat_put Ent.len _ k e (by rw [fill_len l k Ent.zero hk]; exact hltk)]; exact own_put4 HO1.out (.string e.verb) (.int .i64 e.before) (.int .i64 e.after) (.int .i64 e.chain) (by rw [flat_len Ent.len, fill_len l k Ent.zero hk]; omega)⟩
        case measure => simp [intOf]; omega
      · go_wp2
        go_ret
        refine ⟨_, rfl, ?_, hb⟩
        obtain rfl : k = l.length := by omega
        simpa [OwnL] using how

set_option maxHeartbeats 1000000 in
theorem eqEntry (e : Ent) (w : World) :
    Calls Try.prog 41 #[.agg #[.string e.verb, .int .i64 e.before, .int .i64 e.after, .int .i64 e.chain], .agg #[.string e.verb, .int .i64 e.before, .int .i64 e.after, .int .i64 e.chain]] w fun e' w' => e' = .returned (.bool true) ∧ Below w.heap.size w w' := by
  go_enter Try.func41, Try.ntmps41
  go_wp2
  go_ret
  exact ⟨rfl, (by repeat (first | exact Below.refl _ _ | refine Below.alloc ?_ (by first | omega | (simp; done) | (simp; omega)) _ | apply Below.drew | apply below_drewN | refine Below.setCell ?_ (by first | omega | (simp; done) | (simp; omega)) _ | refine Below.trans ?_ (Below.mono (by assumption) (by first | omega | (simp; done) | (simp; omega)))))⟩

set_option maxHeartbeats 2000000 in
theorem eqEntryS (l : List Ent) (va vb : Value) (Ba Bb : Nat) (w : World) (ha : OwnL Ent.cells 4 49 Ba w va l) (hb0 : OwnL Ent.cells 4 49 Bb w vb l) (hn : l.length ≤ 1048576) :
    Calls Try.prog 17 #[va, vb] w fun e w' => e = .returned (.bool true) ∧ Below w.heap.size w w' := by
  obtain ⟨A, c, rfl, hA⟩ := ha.shape
  obtain ⟨A', c', rfl, hA'⟩ := hb0.shape
  by_cases hl0 : l = []
  · subst hl0
    go_enter Try.func17, Try.ntmps17
    go_wp2
    refine wp_loop_once ?_
    go_wp2
    go_ret
    exact ⟨rfl, Below.refl _ _⟩
  · obtain ⟨ga, rfl, _, hga⟩ := hA.resolve_left hl0
    obtain ⟨gb, rfl, _, hgb⟩ := hA'.resolve_left hl0
    clear hA hA'
    go_enter Try.func17, Try.ntmps17
    go_wp2
    go_loopw [5] (fun i wr => ∃ k : Nat, k ≤ l.length ∧ i = .int .i64 k ∧ Below w.heap.size w wr) (fun i _ => l.length - (intOf i).toNat)
    case atStart => exact ⟨0, by omega, rfl, Below.refl _ _⟩
    case round =>
      obtain ⟨k, hk, rfl, hb⟩ := hrel
      by_cases hltk : k < l.length
      · obtain ⟨e, he⟩ : ∃ e, l[k]? = some e := ⟨l[k]'(by omega), List.getElem?_eq_getElem (by omega)⟩
        have hz : w.heap.size ≤ wr.heap.size := hb.size
        have r0 : ∀ x : Wb wr, x.1.cell? ⟨ga, k * 4, none⟩ = some (.string e.verb) := fun x => Wb.cell ((hb.cell (p := ⟨ga, _, none⟩) hga).trans (OwnL.cell Ent.len ha (j := 0) he rfl)) x
        have s0 : ∀ x : Wb wr, x.1.cell? ⟨gb, k * 4, none⟩ = some (.string e.verb) := fun x => Wb.cell ((hb.cell (p := ⟨gb, _, none⟩) hgb).trans (OwnL.cell Ent.len hb0 (j := 0) he rfl)) x
        have r1 : ∀ x : Wb wr, x.1.cell? ⟨ga, k * 4 + 1, none⟩ = some (.int .i64 e.before) := fun x => Wb.cell ((hb.cell (p := ⟨ga, _, none⟩) hga).trans (OwnL.cell Ent.len ha (j := 1) he rfl)) x
        have s1 : ∀ x : Wb wr, x.1.cell? ⟨gb, k * 4 + 1, none⟩ = some (.int .i64 e.before) := fun x => Wb.cell ((hb.cell (p := ⟨gb, _, none⟩) hgb).trans (OwnL.cell Ent.len hb0 (j := 1) he rfl)) x
        have r2 : ∀ x : Wb wr, x.1.cell? ⟨ga, k * 4 + 2, none⟩ = some (.int .i64 e.after) := fun x => Wb.cell ((hb.cell (p := ⟨ga, _, none⟩) hga).trans (OwnL.cell Ent.len ha (j := 2) he rfl)) x
        have s2 : ∀ x : Wb wr, x.1.cell? ⟨gb, k * 4 + 2, none⟩ = some (.int .i64 e.after) := fun x => Wb.cell ((hb.cell (p := ⟨gb, _, none⟩) hgb).trans (OwnL.cell Ent.len hb0 (j := 2) he rfl)) x
        have r3 : ∀ x : Wb wr, x.1.cell? ⟨ga, k * 4 + 3, none⟩ = some (.int .i64 e.chain) := fun x => Wb.cell ((hb.cell (p := ⟨ga, _, none⟩) hga).trans (OwnL.cell Ent.len ha (j := 3) he rfl)) x
        have s3 : ∀ x : Wb wr, x.1.cell? ⟨gb, k * 4 + 3, none⟩ = some (.int .i64 e.chain) := fun x => Wb.cell ((hb.cell (p := ⟨gb, _, none⟩) hgb).trans (OwnL.cell Ent.len hb0 (j := 3) he rfl)) x
        go_wp2
        refine wp_region_wb (by kernel_rfl) (by kernel_rfl) ?_
        repeat (go_big_quiet_step ((go_at_call 41; exact Wb.calls (eqEntry e _))))
        refine wpQuiet_nil ?_; intro w1 hw'; obtain ⟨⟨w2, hb1⟩, hw''⟩ := hw'; subst hw''
        go_wp2
        go_roundw
        case rel => exact ⟨k + 1, by omega, by go_num, (by repeat (first | exact Below.refl _ _ | refine Below.alloc ?_ (by first | omega | (simp; done) | (simp; omega)) _ | apply Below.drew | apply below_drewN | refine Below.setCell ?_ (by first | omega | (simp; done) | (simp; omega)) _ | refine Below.trans ?_ (Below.mono (by assumption) (by first | omega | (simp; done) | (simp; omega)))))⟩
        case measure => simp [intOf]; omega
      · go_wp2
        go_ret
        exact ⟨rfl, hb⟩
end Go.Proofs.Ytkcdemjflbnhbaa
