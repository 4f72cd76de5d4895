/- The helpers of the laws over slices of string: sizes, copies, comparison, marks. Printed by gen_flat.py. -/
import Derived.Test.YtjkfkjbakokjeaaOwn
import Derived.Test.YtjkfkjbakokjeaaMark
namespace Go.Proofs.Ytjkfkjbakokjeaa
set_option linter.unusedVariables false
open Go.RowKit

def scell (e : ByteArray) : List Value := [.string e]
theorem scell_len (e : ByteArray) : (scell e).length = 1 := rfl
abbrev StringL (B : Nat) (w : World) (v : Value) (l : List ByteArray) : Prop := OwnL scell 1 9 B w v l
theorem scell_info : (Try.prog.info? 9).map (fun i => (i.zero, i.size, i.bytes)) = some (some (.string .empty), 1, 16) := by kernel_rfl
theorem StringL.at_ {B g c k n : Nat} {w : World} {l : List ByteArray} {e : ByteArray} (h : StringL B w (.slice (some ⟨g, 0, none⟩) n c) l) (hn : l.length = n) (he : l[k]? = some e) : w.cell? ⟨g, k, none⟩ = some (.string e) := by
  subst hn
  have := OwnL.cell scell_len h he (j := 0) rfl
  simpa using this
def swts (l : List ByteArray) : Nat := (l.map ByteArray.size).foldr (· + ·) 0
theorem swts_drop {l : List ByteArray} {k : Nat} {e : ByteArray} (he : l[k]? = some e) : swts (l.drop k) = e.size + swts (l.drop (k + 1)) := by
  obtain ⟨h, rfl⟩ := List.getElem?_eq_some_iff.1 he
  rw [List.drop_eq_getElem_cons h]; rfl
theorem swts_le {l : List ByteArray} {e : ByteArray} (he : e ∈ l) : e.size ≤ swts l := by
  induction l with
  | nil => cases he
  | cons a l ih =>
    show _ ≤ a.size + swts l
    cases List.mem_cons.1 he with
    | inl h => subst h; exact Nat.le_add_right _ _
    | inr h => exact Nat.le_trans (ih h) (Nat.le_add_left _ _)
set_option maxHeartbeats 2000000 in
theorem szStringS (l : List ByteArray) (v : Value) (x0 : Int) (w : World) (hr : RawL scell 1 w v l) (hm : ∀ e ∈ l, e.size ≤ maxLen) (hx : 0 ≤ x0 ∧ x0 ≤ 1048576) :
    Calls Try.prog 45 #[v, .int .i64 x0] w fun e w' => e = .returned (.int .i64 (szR x0 (l.length + swts l))) ∧ w = w' := by
  obtain ⟨A, c, rfl, hmax, hr⟩ := hr
  obtain ⟨hx0, hx1⟩ := hx
  unfold maxLen at hmax
  by_cases hlen : (l.length : Int) ≤ x0
  · rcases hr with rfl | ⟨b, o, rfl, hlt, hc⟩
    · have HX : Hid (szR x0 0 = x0) := Lib.hid (by rw [szR_yes (by omega)]; omega)
      go_enter Try.func45, Try.ntmps45
      go_wp2
      refine wp_loop_once ?_
      go_wp2
      go_ret
      exact ⟨ret_int HX.out.symm, rfl⟩
    · go_enter Try.func45, Try.ntmps45
      go_wp2
      go_loop [5, 1] (fun i left => ∃ (k : Nat) (x : Int), k ≤ l.length ∧ i = .int .i64 k ∧ left = .int .i64 x ∧ (0 ≤ x ∧ x ≤ 1048576) ∧ Hid (szR x0 (l.length + swts l) = szR x (swts (l.drop k)))) (fun i _ => l.length - (intOf i).toNat)
      case atStart => exact ⟨0, _, by omega, rfl, rfl, by omega, Lib.hid (by simp only [List.drop_zero]; unfold szR; split <;> split <;> omega)⟩
      case round =>
        obtain ⟨k, x, hk, rfl, rfl, hx, HK⟩ := hrel
        obtain ⟨hx2, hx3⟩ := hx
        by_cases hltk : k < l.length
        · obtain ⟨e, he⟩ : ∃ e, l[k]? = some e := ⟨l[k]'(by omega), List.getElem?_eq_getElem (by omega)⟩
          have HW := Lib.hid (swts_drop he)
          have hme := hm e (List.mem_of_getElem? he)
          unfold maxLen at hme
          have p0 := hc k e 0 _ he rfl
          simp only [Nat.add_zero, Nat.mul_one] at p0
          clear hc
          by_cases hneg : x - (e.size : Int) < 0
          · go_wp2
            go_ret
            exact ⟨ret_int (by rw [HK.out, HW.out, szR_no (by omega)]), rfl⟩
          · go_wp2
            go_round
            case rel => exact ⟨k + 1, _, by omega, by go_num, rfl, by omega, Lib.hid (by rw [HK.out, HW.out]; unfold szR; split <;> split <;> omega)⟩
            case measure => simp [intOf]; omega
        · have HX : Hid (szR x (swts (l.drop k)) = x) := Lib.hid (by rw [List.drop_of_length_le (by omega)]; exact (szR_yes (by show ((0 : Nat) : Int) ≤ x; omega)).trans (by show x - ((0 : Nat) : Int) = x; omega))
          clear hc
          go_wp2
          go_ret
          exact ⟨ret_int (by rw [HK.out, HX.out]), rfl⟩
  · go_enter Try.func45, Try.ntmps45
    go_wp2
    go_ret
    exact ⟨ret_int (by rw [szR_no (by omega)]), rfl⟩
set_option maxHeartbeats 2000000 in
theorem toStringS (l : List ByteArray) (v : Value) (w : World) (hr : RawL scell 1 w v l) (hn : l.length ≤ 1048576) :
    Calls Try.prog 49 #[v] w fun e w' => RetL scell 1 9 w l e w' := by
  obtain ⟨i0, hi, hz0, hz1, hz2⟩ := info_parts scell_info
  obtain ⟨A, c, rfl, hmax, hr⟩ := hr
  rcases hr with rfl | ⟨b, o, rfl, hlt, hc⟩
  · go_enter Try.func49, Try.ntmps49
    go_wp2_with (at_make; refine wpList_make_full _ rfl _ _ _ rfl w.heap.size 9 i0 (.string .empty) 1 Try.underlying52 hi hz0 hz1 .i64 .i64 _ _ 0 rfl rfl rfl rfl (by omega) (by unfold maxLen; omega) (Nat.le_refl _) ?_; intro w1 hown hgrow)
    refine wp_loop_once ?_
    go_wp2
    go_ret
    refine ⟨_, rfl, ?_, (Below.refl _ _).grown hgrow (Nat.le_refl _) (by simp)⟩
    rw [made_flat (f := scell) scell_len (by omega) ByteArray.empty (Value.cells (.string .empty)) rfl] at hown
    exact hown
  · go_enter Try.func49, Try.ntmps49
    go_wp2_with (at_make; refine wpList_make_full _ rfl _ _ _ rfl w.heap.size 9 i0 (.string .empty) 1 Try.underlying52 hi hz0 hz1 .i64 .i64 _ _ l.length rfl rfl rfl rfl (by rw [hz2]; omega) (by unfold maxLen; omega) (Nat.le_refl _) ?_; intro w1 hown hgrow)
    have hb0 : Below w.heap.size w w1 := (Below.refl _ _).grown hgrow (Nat.le_refl _) (by simp)
    rw [made_flat (f := scell) scell_len (by omega) ByteArray.empty (Value.cells (.string .empty)) rfl] at hown
    clear hgrow
    go_loopw [4] (fun i wr => ∃ k : Nat, k ≤ l.length ∧ i = .int .i64 k ∧ Below w.heap.size w wr ∧ wr.ownsRow w.heap.size 9 1 (.slice (some ⟨w.heap.size, 0, none⟩) l.length l.length) l.length (flat scell (l.take k ++ List.replicate (l.length - k) ByteArray.empty))) (fun i _ => l.length - (intOf i).toNat)
    case atStart => exact ⟨0, by omega, rfl, hb0, by simpa using hown⟩
    case round =>
      obtain ⟨k, hk, rfl, hb, how⟩ := hrel
      clear hown hb0
      by_cases hltk : k < l.length
      · obtain ⟨e, he⟩ : ∃ e, l[k]? = some e := ⟨l[k]'(by omega), List.getElem?_eq_getElem (by omega)⟩
        have hz : w.heap.size ≤ wr.heap.size := hb.size
        have hg : w.heap.size < wr.heap.size := (how.lt _ rfl).2
        have p0 := (hb.cell (p := ⟨b, _, none⟩) hlt).trans (hc k e 0 _ he rfl)
        simp only [Nat.add_zero, Nat.mul_one] at p0
        clear hc
        have HO := Lib.hid how
        have q0 : wr.cell? ⟨w.heap.size, k, none⟩ = some (.string .empty) := by have := (how.cellAt (k * 1 + 0) (by omega)).trans (flat_get scell_len (fill_get l k ByteArray.empty hltk) (j := 0) (by omega)); simpa [scell] using this
        have z0 := fun j => how.frozenAt j
        clear how
        go_wp2
        go_roundw
        case rel => exact ⟨k + 1, by omega, by go_num, (by repeat (first | exact Below.refl _ _ | refine Below.alloc ?_ (by first | omega | (simp; done) | (simp; omega)) _ | apply Below.drew | apply below_drewN | refine Below.setCell ?_ (by first | omega | (simp; done) | (simp; omega)) _ | refine Below.trans ?_ (Below.mono (by assumption) (by first | omega | (simp; done) | (simp; omega))))), by rw [← fill_set l k ByteArray.empty e he, ← flat_put scell_len _ k e (by rw [fill_len l k ByteArray.empty hk]; exact hltk), Nat.mul_one]; exact own_put1 HO.out _ (by rw [flat_len scell_len, fill_len l k ByteArray.empty hk]; omega)⟩
        case measure => simp [intOf]; omega
      · go_wp2
        go_ret
        refine ⟨_, rfl, ?_, hb⟩
        obtain rfl : k = l.length := by omega
        simpa [OwnL] using how
set_option maxHeartbeats 2000000 in
theorem eqStringS (l : List ByteArray) (va vb : Value) (Ba Bb : Nat) (w : World) (ha : StringL Ba w va l) (hb0 : StringL Bb w vb l) (hn : l.length ≤ 8388608) :
    Calls Try.prog 54 #[va, vb] w fun e w' => e = .returned (.bool true) ∧ Qt w w' := by
  obtain ⟨A, c, rfl, hA⟩ := ha.shape
  obtain ⟨A', c', rfl, hA'⟩ := hb0.shape
  by_cases hl0 : l = []
  · subst hl0
    go_enter Try.func54, Try.ntmps54
    go_wp2
    refine wp_loop_once ?_
    go_wp2
    go_ret
    exact ⟨rfl, Qt.refl _⟩
  · obtain ⟨ga, rfl, _, hga⟩ := hA.resolve_left hl0
    obtain ⟨gb, rfl, _, hgb⟩ := hA'.resolve_left hl0
    clear hA hA'
    go_enter Try.func54, Try.ntmps54
    go_wp2
    go_loopw [5] (fun i wr => ∃ k : Nat, k ≤ l.length ∧ i = .int .i64 k ∧ Qt w wr) (fun i _ => l.length - (intOf i).toNat)
    case atStart => exact ⟨0, by omega, rfl, Qt.refl _⟩
    case round =>
      obtain ⟨k, hk, rfl, hq⟩ := hrel
      by_cases hltk : k < l.length
      · obtain ⟨e, he⟩ : ∃ e, l[k]? = some e := ⟨l[k]'(by omega), List.getElem?_eq_getElem (by omega)⟩
        have r0 : wr.cell? ⟨ga, k, none⟩ = some (.string e) := (hq.cell _).trans (StringL.at_ ha rfl he)
        have s0 : wr.cell? ⟨gb, k, none⟩ = some (.string e) := (hq.cell _).trans (StringL.at_ hb0 rfl he)
        have j0 : (0 : Int) ≤ (k : Int) := by omega
        have j1 : (k : Int) < (l.length : Int) := by omega
        go_wp2
        go_quiet (fail)
        go_wp2
        go_roundw
        case rel => exact ⟨k + 1, by omega, by go_num, hq.drewN _⟩
        case measure => simp [intOf]; omega
      · go_wp2
        go_ret
        exact ⟨rfl, hq⟩
/- []string in memory -/
end Go.Proofs.Ytjkfkjbakokjeaa
