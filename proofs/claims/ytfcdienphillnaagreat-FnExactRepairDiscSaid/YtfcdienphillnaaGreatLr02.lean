/- markText: the walk; it computes a function of its number. Sectors as lists. The helpers of the laws over impl.Sector: sizes, copies, comparison, marks. Printed by gen_flat.py. -/
import Derived.Test.YtfcdienphillnaaGreatLr01
namespace Go.Proofs.YtfcdienphillnaaGreat
set_option linter.unusedVariables false
set_option linter.unusedSimpArgs false
open Go.RowKit

/-- the digits of k, put before out -/
def mtd : Nat → Nat → ByteArray → ByteArray
  | 0, _, out => out
  | f + 1, k, out => if k = 0 then out else mtd f (k / 10) (strOfNums [48 + (k : Int) % 10] ++ out)
def mt (k : Nat) : ByteArray := strOfNums [109] ++ mtd k k .empty
theorem mtd_next {n f k : Nat} {s : ByteArray} (hk : 0 < k) (H : Hid (mtd n n .empty = mtd (f + 1) k s)) : Hid (mtd n n .empty = mtd f (k / 10) (strOfNums [48 + (k : Int) % 10] ++ s)) :=
  Lib.hid (by rw [H.out, mtd, if_neg (by omega)])
theorem mtd_end {n f : Nat} {s : ByteArray} (H : Hid (mtd n n .empty = mtd f 0 s)) : Ending.returned (.string ({ data := #[109] } ++ s)) = .returned (.string (mt n)) := by
  have e : mtd n n .empty = s := by rw [H.out]; cases f <;> simp [mtd]
  unfold mt; rw [e]; rfl
theorem conv1 (w : World) (x : Int) : (convert 65 9 (.slice (some ⟨w.heap.size, 0, none⟩) 1 1)).run Tryz.prog (w.alloc (.cells #[.int .u8 x] 5)) = .ok (.string (strOfNums [x])) (w.alloc (.cells #[.int .u8 x] 5)) :=
  run_convert_bytes_arg _ 65 5 Tryz.underlying65 Tryz.underlying5 _ 0 1 1 [x] rfl (fun i hi => by
    obtain rfl : i = 0 := by omega
    simp) 9 Tryz.underlying9
set_option maxHeartbeats 2000000 in
theorem mark_any (n : Nat) (w : World) (h0 : 1 ≤ n) (h : n ≤ 268435456) :
    Calls Tryz.prog 108 #[.int .i64 n] w fun e w' => e = .returned (.string (mt n)) ∧ Below w.heap.size w w' := by
  have hcv := conv1
  go_enter Tryz.func108, Tryz.ntmps108
  go_wp2
  go_loopw [0, 3] (fun i out wr => ∃ (k f : Nat) (s : ByteArray), k ≤ n ∧ k ≤ f ∧ i = .int .i64 k ∧ out = .string s ∧ s.size + f ≤ n ∧ Below w.heap.size w wr ∧ Hid (mtd n n .empty = mtd f k s)) (fun i _ _ => (intOf i).toNat)
  case atStart => exact ⟨n, n, _, by omega, by omega, rfl, rfl, Nat.le_of_eq (Nat.zero_add n), (by repeat (first | exact Below.refl _ _ | refine Below.alloc ?_ (by first | omega | (simp; done) | (simp; omega)) _ | apply Below.drew | apply below_drewN | refine Below.setCell ?_ (by first | omega | (simp; done) | (simp; omega)) _ | refine Below.trans ?_ (Below.mono (by assumption) (by first | omega | (simp; done) | (simp; omega))))), Lib.hid rfl⟩
  case round =>
    obtain ⟨k, f, s, hk, hf, rfl, rfl, hs, hb, HK⟩ := hrel
    have hz := hb.size
    by_cases hlt : 0 < k
    · have hsa : ∀ x y : ByteArray, (x ++ y).size = x.size + y.size := fun _ _ => ByteArray.size_append
      have hss : ∀ x : Int, (strOfNums [x]).size = 1 := fun x => rfl
      obtain ⟨f', rfl⟩ : ∃ f', f = f' + 1 := ⟨f - 1, by omega⟩
      go_wp2
      go_roundw
      case rel => exact ⟨k / 10, f', strOfNums [48 + (k : Int) % 10] ++ s, by omega, by omega, by go_num, rfl, by rw [hsa, hss]; omega, (by repeat (first | exact Below.refl _ _ | refine Below.alloc ?_ (by first | omega | (simp; done) | (simp; omega)) _ | apply Below.drew | apply below_drewN | refine Below.setCell ?_ (by first | omega | (simp; done) | (simp; omega)) _ | refine Below.trans ?_ (Below.mono (by assumption) (by first | omega | (simp; done) | (simp; omega))))), mtd_next hlt HK⟩
      case measure => simp [intOf]; omega
    · obtain rfl : k = 0 := by omega
      go_wp2
      go_ret
      exact ⟨mtd_end HK, (by repeat (first | exact Below.refl _ _ | refine Below.alloc ?_ (by first | omega | (simp; done) | (simp; omega)) _ | apply Below.drew | apply below_drewN | refine Below.setCell ?_ (by first | omega | (simp; done) | (simp; omega)) _ | refine Below.trans ?_ (Below.mono (by assumption) (by first | omega | (simp; done) | (simp; omega)))))⟩
end Go.Proofs.YtfcdienphillnaaGreat
namespace Go.Proofs.YtfcdienphillnaaGreat
set_option linter.unusedVariables false
set_option linter.unusedSimpArgs false
open Go.RowKit
structure Sec where
  data : ByteArray
  state : Int
def Sec.cells (e : Sec) : List Value := [.string e.data, .int .i64 e.state]
end Go.Proofs.YtfcdienphillnaaGreat
namespace Go.Proofs.YtfcdienphillnaaGreat
set_option linter.unusedVariables false
set_option linter.unusedSimpArgs false
open Go.RowKit

theorem Sec.len (e : Sec) : e.cells.length = 2 := rfl
def Sec.wt (e : Sec) : Nat := e.data.size
def Sec.wts (l : List Sec) : Nat := (l.map Sec.wt).foldr (· + ·) 0
theorem Sec.wts_drop {l : List Sec} {k : Nat} {e : Sec} (he : l[k]? = some e) : Sec.wts (l.drop k) = Sec.wt e + Sec.wts (l.drop (k + 1)) := by
  obtain ⟨h, rfl⟩ := List.getElem?_eq_some_iff.1 he
  rw [List.drop_eq_getElem_cons h]; rfl
theorem Sec.info : (Tryz.prog.info? 70).map (fun i => (i.zero, i.size, i.bytes)) = some (some (.agg #[.string .empty, .int .i64 0]), 2, 24) := by kernel_rfl
def Sec.zero : Sec := ⟨.empty, 0⟩
instance : Inhabited Sec := ⟨Sec.zero⟩

set_option maxHeartbeats 1000000 in
theorem szSector (e : Sec) (x : Int) (w : World) (h0 : 0 ≤ x ∧ x ≤ 1048576) (m_data : e.data.size ≤ maxLen) :
    Calls Tryz.prog 73 #[.agg #[.string e.data, .int .i64 e.state], .int .i64 x] w fun e' w' => e' = .returned (.int .i64 (szR x e.wt)) ∧ Below w.heap.size w w' := by
  obtain ⟨h0, h0'⟩ := h0
  unfold maxLen at m_data
  go_enter Tryz.func73, Tryz.ntmps73
  go_wp2
  all_goals (go_ret; refine ⟨ret_int ?_, (by repeat (first | exact Below.refl _ _ | refine Below.alloc ?_ (by first | omega | (simp; done) | (simp; omega)) _ | apply Below.drew | apply below_drewN | refine Below.setCell ?_ (by first | omega | (simp; done) | (simp; omega)) _ | refine Below.trans ?_ (Below.mono (by assumption) (by first | omega | (simp; done) | (simp; omega)))))⟩; unfold Sec.wt; first | (rw [szR_yes (by omega)]; done) | (rw [szR_yes (by omega)]; omega) | (rw [szR_no (by omega)]))

theorem szR_step_no {left : Int} {n m k : Nat} {x : Int} (H : Hid (szR left n = szR x m)) (hk : k ≤ m) (hx : szR x k < 0) : szR left n = -1 := by
  have := szR_neg.1 hx
  rw [H.out, szR_no (by omega)]
theorem szR_step_yes {left : Int} {n m m' k : Nat} {x : Int} (H : Hid (szR left n = szR x m)) (hk : m = k + m') (hx : 0 ≤ szR x k) : Hid (szR left n = szR (szR x k) m') := by
  have := szR_pos.1 hx
  refine Lib.hid ?_
  rw [H.out, szR_yes this, hk]
  unfold szR
  split <;> split <;> omega
theorem szR_le {x : Int} {k : Nat} (h : x ≤ 1048576) : szR x k ≤ 1048576 := by unfold szR; split <;> omega
set_option maxHeartbeats 2000000 in
theorem szSectorS (l : List Sec) (v : Value) (x0 : Int) (w : World) (hr : RawL Sec.cells 2 w v l) (hm : ∀ e ∈ l, e.data.size ≤ maxLen) (hx : 0 ≤ x0 ∧ x0 ≤ 1048576) :
    Calls Tryz.prog 40 #[v, .int .i64 x0] w fun e w' => e = .returned (.int .i64 (szR x0 (l.length + Sec.wts l))) ∧ Below w.heap.size w w' := by
  obtain ⟨hx0, hx1⟩ := hx
  obtain ⟨A, c, rfl, hmax, hr⟩ := hr
  unfold maxLen at hmax
  by_cases hlen : (l.length : Int) ≤ x0
  · rcases hr with rfl | ⟨b, o, rfl, hlt, hc⟩
    · have HX : Hid (szR x0 0 = x0) := Lib.hid (by rw [szR_yes (by omega)]; omega)
      go_enter Tryz.func40, Tryz.ntmps40
      go_wp2
      refine wp_loop_once ?_
      go_wp2
      go_ret
      exact ⟨ret_int HX.out.symm, (by repeat (first | exact Below.refl _ _ | refine Below.alloc ?_ (by first | omega | (simp; done) | (simp; omega)) _ | apply Below.drew | apply below_drewN | refine Below.setCell ?_ (by first | omega | (simp; done) | (simp; omega)) _ | refine Below.trans ?_ (Below.mono (by assumption) (by first | omega | (simp; done) | (simp; omega)))))⟩
    · go_enter Tryz.func40, Tryz.ntmps40
      go_wp2
      go_loopw [5, 1] (fun i left wr => ∃ (k : Nat) (x : Int), k ≤ l.length ∧ i = .int .i64 k ∧ left = .int .i64 x ∧ (0 ≤ x ∧ x ≤ 1048576) ∧ Below w.heap.size w wr ∧ Hid (szR x0 (l.length + Sec.wts l) = szR x (Sec.wts (l.drop k)))) (fun i _ _ => l.length - (intOf i).toNat)
      case atStart => exact ⟨0, _, by omega, rfl, rfl, by omega, (by repeat (first | exact Below.refl _ _ | refine Below.alloc ?_ (by first | omega | (simp; done) | (simp; omega)) _ | apply Below.drew | apply below_drewN | refine Below.setCell ?_ (by first | omega | (simp; done) | (simp; omega)) _ | refine Below.trans ?_ (Below.mono (by assumption) (by first | omega | (simp; done) | (simp; omega))))), Lib.hid (by simp only [List.drop_zero]; unfold szR; split <;> split <;> omega)⟩
      case round =>
        obtain ⟨k, x, hk, rfl, rfl, hxx, hb, HK⟩ := hrel
        by_cases hltk : k < l.length
        · obtain ⟨e, he⟩ : ∃ e, l[k]? = some e := ⟨l[k]'(by omega), List.getElem?_eq_getElem (by omega)⟩
          have HW := Lib.hid (Sec.wts_drop he)
          have p0 := (hb.cell (p := ⟨b, _, none⟩) hlt).trans (hc k e 0 _ he rfl)
          have p1 := (hb.cell (p := ⟨b, _, none⟩) hlt).trans (hc k e 1 _ he rfl)
          simp only [Nat.add_zero] at p0
          have hz : w.heap.size ≤ wr.heap.size := hb.size
          clear hc
          go_wp2_with (first | (go_at_call 73; refine (szSector e x _ hxx (hm e (List.mem_of_getElem? he))).mono ?_; rintro e' w1 ⟨rfl, hb1⟩))
          · have hneg : szR x e.wt < 0 := by assumption
            go_ret
            exact ⟨ret_int (szR_step_no HK (by rw [HW.out]; omega) hneg).symm, (by repeat (first | exact Below.refl _ _ | refine Below.alloc ?_ (by first | omega | (simp; done) | (simp; omega)) _ | apply Below.drew | apply below_drewN | refine Below.setCell ?_ (by first | omega | (simp; done) | (simp; omega)) _ | refine Below.trans ?_ (Below.mono (by assumption) (by first | omega | (simp; done) | (simp; omega)))))⟩
          · have hpos : 0 ≤ szR x e.wt := by assumption
            go_roundw
            case rel => exact ⟨k + 1, _, by omega, by go_num, rfl, ⟨hpos, szR_le hxx.2⟩, (by repeat (first | exact Below.refl _ _ | refine Below.alloc ?_ (by first | omega | (simp; done) | (simp; omega)) _ | apply Below.drew | apply below_drewN | refine Below.setCell ?_ (by first | omega | (simp; done) | (simp; omega)) _ | refine Below.trans ?_ (Below.mono (by assumption) (by first | omega | (simp; done) | (simp; omega))))), szR_step_yes HK HW.out hpos⟩
            case measure => simp [intOf]; omega
        · have hxp : szR x (Sec.wts (l.drop k)) = x := by rw [List.drop_of_length_le (by omega)]; exact (szR_yes (by show ((0 : Nat) : Int) ≤ x; omega)).trans (by show x - ((0 : Nat) : Int) = x; omega)
          have HX := Lib.hid hxp
          clear hxp hc
          go_wp2
          go_ret
          exact ⟨ret_int (by rw [HK.out, HX.out]), (by repeat (first | exact Below.refl _ _ | refine Below.alloc ?_ (by first | omega | (simp; done) | (simp; omega)) _ | apply Below.drew | apply below_drewN | refine Below.setCell ?_ (by first | omega | (simp; done) | (simp; omega)) _ | refine Below.trans ?_ (Below.mono (by assumption) (by first | omega | (simp; done) | (simp; omega)))))⟩
  · go_enter Tryz.func40, Tryz.ntmps40
    go_wp2
    go_ret
    exact ⟨ret_int (by rw [szR_no (by omega)]), (by repeat (first | exact Below.refl _ _ | refine Below.alloc ?_ (by first | omega | (simp; done) | (simp; omega)) _ | apply Below.drew | apply below_drewN | refine Below.setCell ?_ (by first | omega | (simp; done) | (simp; omega)) _ | refine Below.trans ?_ (Below.mono (by assumption) (by first | omega | (simp; done) | (simp; omega)))))⟩

set_option maxHeartbeats 1000000 in
theorem toSector (e : Sec) (w : World) :
    Calls Tryz.prog 82 #[.agg #[.string e.data, .int .i64 e.state]] w fun e' w' => e' = .returned (.agg #[.string e.data, .int .i64 e.state]) ∧ Below w.heap.size w w' := by
  go_enter Tryz.func82, Tryz.ntmps82
  go_wp2
  exact bodyPost_ret (v := .agg #[.string e.data, .int .i64 e.state]) (by simp [results, Tryz.results82, go_sem]) rfl ⟨rfl, (by repeat (first | exact Below.refl _ _ | refine Below.alloc ?_ (by first | omega | (simp; done) | (simp; omega)) _ | apply Below.drew | apply below_drewN | refine Below.setCell ?_ (by first | omega | (simp; done) | (simp; omega)) _ | refine Below.trans ?_ (Below.mono (by assumption) (by first | omega | (simp; done) | (simp; omega)))))⟩

set_option maxHeartbeats 2000000 in
theorem toSectorS (l : List Sec) (v : Value) (w : World) (hr : RawL Sec.cells 2 w v l) (hn : l.length ≤ 1048576) :
    Calls Tryz.prog 48 #[v] w fun e w' => RetL Sec.cells 2 70 w l e w' := by
  obtain ⟨i0, hi, hz0, hz1, hz2⟩ := info_parts Sec.info
  obtain ⟨A, c, rfl, hmax, hr⟩ := hr
  rcases hr with rfl | ⟨b, o, rfl, hlt, hc⟩
  · go_enter Tryz.func48, Tryz.ntmps48
    go_wp2_with (at_make; refine wpList_make_full _ rfl _ _ _ rfl w.heap.size 70 i0 (.agg #[.string .empty, .int .i64 0]) 2 Tryz.underlying41 hi hz0 hz1 .i64 .i64 _ _ 0 rfl rfl rfl rfl (by omega) (by unfold maxLen; omega) (Nat.le_refl _) ?_; intro w1 hown hgrow)
    refine wp_loop_once ?_
    go_wp2
    go_ret
    refine ⟨_, rfl, ?_, (Below.refl _ _).grown hgrow (Nat.le_refl _) (by simp)⟩
    rw [made_flat (f := Sec.cells) Sec.len (by omega) Sec.zero (Value.agg #[.string .empty, .int .i64 0]).cells rfl] at hown
    exact hown
  · go_enter Tryz.func48, Tryz.ntmps48
    go_wp2_with (at_make; refine wpList_make_full _ rfl _ _ _ rfl w.heap.size 70 i0 (.agg #[.string .empty, .int .i64 0]) 2 Tryz.underlying41 hi hz0 hz1 .i64 .i64 _ _ l.length rfl rfl rfl rfl (by rw [hz2]; omega) (by unfold maxLen; omega) (Nat.le_refl _) ?_; intro w1 hown hgrow)
    have hb0 : Below w.heap.size w w1 := (Below.refl _ _).grown hgrow (Nat.le_refl _) (by simp)
    rw [made_flat (f := Sec.cells) Sec.len (by omega) Sec.zero (Value.agg #[.string .empty, .int .i64 0]).cells rfl] at hown
    clear hgrow
    go_loopw [4] (fun i wr => ∃ k : Nat, k ≤ l.length ∧ i = .int .i64 k ∧ Below w.heap.size w wr ∧ wr.ownsRow w.heap.size 70 2 (.slice (some ⟨w.heap.size, 0, none⟩) l.length l.length) l.length (flat Sec.cells (l.take k ++ List.replicate (l.length - k) Sec.zero))) (fun i _ => l.length - (intOf i).toNat)
    case atStart => exact ⟨0, by omega, rfl, hb0, by simpa using hown⟩
    case round =>
      obtain ⟨k, hk, rfl, hb, how⟩ := hrel
      clear hown hb0
      by_cases hltk : k < l.length
      · obtain ⟨e, he⟩ : ∃ e, l[k]? = some e := ⟨l[k]'(by omega), List.getElem?_eq_getElem (by omega)⟩
        have hz : w.heap.size ≤ wr.heap.size := hb.size
        have hg : w.heap.size < wr.heap.size := (how.lt _ rfl).2
        have p0 := (hb.cell (p := ⟨b, _, none⟩) hlt).trans (hc k e 0 _ he rfl)
        have p1 := (hb.cell (p := ⟨b, _, none⟩) hlt).trans (hc k e 1 _ he rfl)
        simp only [Nat.add_zero] at p0
        clear hc
        have HO := Lib.hid how
        clear how
        go_wp2_with (go_at_call 82; refine (toSector e _).mono ?_; rintro e' w1 ⟨rfl, hb1⟩; have HO1 := Lib.hid (World.ownsRow.kept HO.out (grown_of_below hb1 none) (by simp [Value.ownBlock])); have q0 : w1.cell? ⟨w.heap.size, k * 2, none⟩ = some (.string .empty) := (HO1.out.cellAt (k * 2 + 0) (by omega)).trans (flat_get Sec.len (fill_get l k Sec.zero hltk) (j := 0) (by omega)); have q1 : w1.cell? ⟨w.heap.size, k * 2 + 1, none⟩ = some (.int .i64 0) := (HO1.out.cellAt (k * 2 + 1) (by omega)).trans (flat_get Sec.len (fill_get l k Sec.zero hltk) (j := 1) (by omega)); have z0 := fun j => HO1.out.frozenAt j; have hz1 : w.heap.size < w1.heap.size := Nat.lt_of_lt_of_le hg hb1.size)
        go_roundw
        case rel => exact ⟨k + 1, by omega, by go_num, (by repeat (first | exact Below.refl _ _ | refine Below.alloc ?_ (by first | omega | (simp; done) | (simp; omega)) _ | apply Below.drew | apply below_drewN | refine Below.setCell ?_ (by first | omega | (simp; done) | (simp; omega)) _ | refine Below.trans ?_ (Below.mono (by assumption) (by first | omega | (simp; done) | (simp; omega))))), by rw [← fill_set l k Sec.zero e he, ← flat_put Sec.len _ k e (by rw [fill_len l k Sec.zero hk]; exact hltk)]; exact own_put2 HO1.out (.string e.data) (.int .i64 e.state) (by rw [flat_len Sec.len, fill_len l k Sec.zero hk]; omega)⟩
        case measure => simp [intOf]; omega
      · go_wp2
        go_ret
        refine ⟨_, rfl, ?_, hb⟩
        obtain rfl : k = l.length := by omega
        simpa [OwnL] using how

set_option maxHeartbeats 1000000 in
theorem eqSector (e : Sec) (w : World) :
    Calls Tryz.prog 94 #[.agg #[.string e.data, .int .i64 e.state], .agg #[.string e.data, .int .i64 e.state]] w fun e' w' => e' = .returned (.bool true) ∧ Below w.heap.size w w' := by
  go_enter Tryz.func94, Tryz.ntmps94
  go_wp2
  go_ret
  exact ⟨rfl, (by repeat (first | exact Below.refl _ _ | refine Below.alloc ?_ (by first | omega | (simp; done) | (simp; omega)) _ | apply Below.drew | apply below_drewN | refine Below.setCell ?_ (by first | omega | (simp; done) | (simp; omega)) _ | refine Below.trans ?_ (Below.mono (by assumption) (by first | omega | (simp; done) | (simp; omega)))))⟩

set_option maxHeartbeats 2000000 in
theorem eqSectorS (l : List Sec) (va vb : Value) (Ba Bb : Nat) (w : World) (ha : OwnL Sec.cells 2 70 Ba w va l) (hb0 : OwnL Sec.cells 2 70 Bb w vb l) (hn : l.length ≤ 8388608) :
    Calls Tryz.prog 56 #[va, vb] w fun e w' => e = .returned (.bool true) ∧ Below w.heap.size w w' := by
  obtain ⟨A, c, rfl, hA⟩ := ha.shape
  obtain ⟨A', c', rfl, hA'⟩ := hb0.shape
  by_cases hl0 : l = []
  · subst hl0
    go_enter Tryz.func56, Tryz.ntmps56
    go_wp2
    refine wp_loop_once ?_
    go_wp2
    go_ret
    exact ⟨rfl, Below.refl _ _⟩
  · obtain ⟨ga, rfl, _, hga⟩ := hA.resolve_left hl0
    obtain ⟨gb, rfl, _, hgb⟩ := hA'.resolve_left hl0
    clear hA hA'
    go_enter Tryz.func56, Tryz.ntmps56
    go_wp2
    go_loopw [5] (fun i wr => ∃ k : Nat, k ≤ l.length ∧ i = .int .i64 k ∧ Below w.heap.size w wr) (fun i _ => l.length - (intOf i).toNat)
    case atStart => exact ⟨0, by omega, rfl, Below.refl _ _⟩
    case round =>
      obtain ⟨k, hk, rfl, hb⟩ := hrel
      by_cases hltk : k < l.length
      · obtain ⟨e, he⟩ : ∃ e, l[k]? = some e := ⟨l[k]'(by omega), List.getElem?_eq_getElem (by omega)⟩
        have hz : w.heap.size ≤ wr.heap.size := hb.size
        have r0 : ∀ x : Wb wr, x.1.cell? ⟨ga, k * 2, none⟩ = some (.string e.data) := fun x => Wb.cell ((hb.cell (p := ⟨ga, _, none⟩) hga).trans (OwnL.cell Sec.len ha (j := 0) he rfl)) x
        have s0 : ∀ x : Wb wr, x.1.cell? ⟨gb, k * 2, none⟩ = some (.string e.data) := fun x => Wb.cell ((hb.cell (p := ⟨gb, _, none⟩) hgb).trans (OwnL.cell Sec.len hb0 (j := 0) he rfl)) x
        have r1 : ∀ x : Wb wr, x.1.cell? ⟨ga, k * 2 + 1, none⟩ = some (.int .i64 e.state) := fun x => Wb.cell ((hb.cell (p := ⟨ga, _, none⟩) hga).trans (OwnL.cell Sec.len ha (j := 1) he rfl)) x
        have s1 : ∀ x : Wb wr, x.1.cell? ⟨gb, k * 2 + 1, none⟩ = some (.int .i64 e.state) := fun x => Wb.cell ((hb.cell (p := ⟨gb, _, none⟩) hgb).trans (OwnL.cell Sec.len hb0 (j := 1) he rfl)) x
        go_wp2
        refine wp_region_wb (by kernel_rfl) (by kernel_rfl) ?_
        repeat (go_big_quiet_step ((go_at_call 94; exact Wb.calls (eqSector e _))))
        refine wpQuiet_nil ?_; intro w1 hw'; obtain ⟨⟨w2, hb1⟩, hw''⟩ := hw'; subst hw''
        go_wp2
        go_roundw
        case rel => exact ⟨k + 1, by omega, by go_num, (by repeat (first | exact Below.refl _ _ | refine Below.alloc ?_ (by first | omega | (simp; done) | (simp; omega)) _ | apply Below.drew | apply below_drewN | refine Below.setCell ?_ (by first | omega | (simp; done) | (simp; omega)) _ | refine Below.trans ?_ (Below.mono (by assumption) (by first | omega | (simp; done) | (simp; omega)))))⟩
        case measure => simp [intOf]; omega
      · go_wp2
        go_ret
        exact ⟨rfl, hb⟩

def Sec.mark (k : Nat) : Sec := ⟨mt k, ((k + 1 : Nat) : Int)⟩
def Sec.marks (k n : Nat) : List Sec := (List.range n).map fun i => Sec.mark (k + i * 2)
theorem Sec.marks_len (k n : Nat) : (Sec.marks k n).length = n := by simp [Sec.marks]
theorem Sec.marks_get (k n i : Nat) (h : i < n) : (Sec.marks k n)[i]? = some (Sec.mark (k + i * 2)) := by simp [Sec.marks, h]
theorem Sec.marks_succ (k n : Nat) : Sec.marks k (n + 1) = Sec.marks k n ++ [Sec.mark (k + n * 2)] := by simp [Sec.marks, List.range_succ]
theorem Sec.mid_get (k0 k : Nat) (l : List Sec) : (Sec.marks k0 k ++ l.drop k)[k]? = l[k]? := by
  rw [List.getElem?_append_right (by rw [Sec.marks_len]; omega), Sec.marks_len, Nat.sub_self, List.getElem?_drop, Nat.add_zero]
theorem Sec.mid_len (k0 k : Nat) (l : List Sec) (h : k ≤ l.length) : (Sec.marks k0 k ++ l.drop k).length = l.length := by simp [Sec.marks_len]; omega
theorem Sec.mid_set (k0 k : Nat) (l : List Sec) (h : k < l.length) : (Sec.marks k0 k ++ l.drop k).set k (Sec.mark (k0 + k * 2)) = Sec.marks k0 (k + 1) ++ l.drop (k + 1) := by
  rw [List.set_append_right _ _ (by rw [Sec.marks_len]; omega), Sec.marks_len, Nat.sub_self, List.drop_eq_getElem_cons h, List.set_cons_zero, Sec.marks_succ, List.append_assoc]; rfl
theorem grown_transSector {a b c : World} {row : Option Nat} (h : a.grownBy b row) (k : b.grownBy c row) : a.grownBy c row :=
  ⟨k.os.trans h.os, k.tape.trans h.tape, k.output.trans h.output, Nat.le_trans h.size k.size, fun i hi hne => (k.block i (Nat.lt_of_lt_of_le hi h.size) hne).trans (h.block i hi hne)⟩
theorem grown_setSector {a w : World} {g : Nat} (h : a.grownBy w (some g)) (o : Nat) (u : Value) : a.grownBy (w.setCell ⟨g, o, none⟩ u) (some g) :=
  ⟨h.os, h.tape, h.output, by simpa [World.setCell] using h.size, fun i hi hne => (Below.heap_setCell w ⟨g, o, none⟩ u i (by rintro rfl; exact hne rfl)).trans (h.block i hi hne)⟩
def MarkedSector (B : Nat) (w : World) (v : Value) (k0 n : Nat) (e : Ending) (w' : World) : Prop :=
  e = .returned (.int .i64 ((k0 + n * 2 : Nat) : Int)) ∧ OwnL Sec.cells 2 70 B w' v (Sec.marks k0 n) ∧ w.grownBy w' v.ownBlock

set_option maxHeartbeats 2000000 in
theorem markSectorS (l : List Sec) (v : Value) (k0 : Nat) (B : Nat) (w : World) (h : OwnL Sec.cells 2 70 B w v l) (hn : l.length ≤ 8388608) (h0 : 1 ≤ k0) (hk0 : k0 ≤ 67108864) :
    Calls Tryz.prog 66 #[v, .int .i64 k0] w fun e w' => MarkedSector B w v k0 l.length e w' := by
  obtain ⟨A, c, rfl, hA⟩ := h.shape
  by_cases hl0 : l = []
  · subst hl0
    have HR : Hid (MarkedSector B w (.slice A 0 c) k0 0 (.returned (.int .i64 k0)) w) := Lib.hid ⟨by simp, h, World.grownBy.refl w _⟩
    go_enter Tryz.func66, Tryz.ntmps66
    go_wp2
    refine wp_loop_once ?_
    go_wp2
    go_ret
    exact HR.out
  · obtain ⟨g, rfl, _, hg0⟩ := hA.resolve_left hl0
    clear hA
    go_enter Tryz.func66, Tryz.ntmps66
    go_wp2
    go_loopw [5, 1] (fun i m wr => ∃ k : Nat, k ≤ l.length ∧ i = .int .i64 k ∧ m = .int .i64 ((k0 + k * 2 : Nat) : Int) ∧ w.grownBy wr (some g) ∧ wr.ownsRow B 70 2 (.slice (some ⟨g, 0, none⟩) l.length c) l.length (flat Sec.cells (Sec.marks k0 k ++ l.drop k))) (fun i _ _ => l.length - (intOf i).toNat)
    case atStart => exact ⟨0, by omega, rfl, by simp, World.grownBy.refl w _, by unfold OwnL at h; simpa [Sec.marks] using h⟩
    case round =>
      obtain ⟨k, hk, rfl, rfl, hg, how⟩ := hrel
      by_cases hltk : k < l.length
      · obtain ⟨e, he⟩ : ∃ e, l[k]? = some e := ⟨l[k]'(by omega), List.getElem?_eq_getElem (by omega)⟩
        have HG := Lib.hid ((Sec.mid_get k0 k l).trans he)
        have HO := Lib.hid how
        have HW := Lib.hid hg
        clear how hg h
        go_wp2_with (go_at_call 108; refine (mark_any (k0 + k * 2) _ (by omega) (by omega)).mono ?_; rintro e' w1 ⟨rfl, hb1⟩; have HO1 := Lib.hid (HO.out.kept (grown_of_below hb1 (none)) (by simp [Value.ownBlock])); have HG1 := Lib.hid (grown_transSector HW.out (grown_of_below hb1 _)); have q0 : w1.cell? ⟨g, k * 2, none⟩ = some (.string e.data) := (HO1.out.cellAt (k * 2 + 0) (by omega)).trans (flat_get Sec.len HG.out (j := 0) (by omega)); have q1 : w1.cell? ⟨g, k * 2 + 1, none⟩ = some (.int .i64 e.state) := (HO1.out.cellAt (k * 2 + 1) (by omega)).trans (flat_get Sec.len HG.out (j := 1) (by omega)); have z0 := fun j => HO1.out.frozenAt j)
        go_roundw
        case rel => exact ⟨k + 1, by omega, by go_num, by congr 1; omega, grown_setSector (grown_setSector HG1.out _ _) _ _, by rw [← Sec.mid_set k0 k l hltk, ← flat_put Sec.len _ k _ (by rw [Sec.mid_len k0 k l hk]; exact hltk)]; exact own_put2 HO1.out (.string (mt (k0 + k * 2))) (.int .i64 ((k0 + k * 2 + 1 : Nat) : Int)) (by rw [flat_len Sec.len, Sec.mid_len k0 k l hk]; omega)⟩
        case measure => simp [intOf]; omega
      · obtain rfl : k = l.length := by omega
        go_wp2
        go_ret
        exact ⟨rfl, by simpa [OwnL, Sec.marks_len] using how, hg⟩

/-- []impl.Sector in memory -/
def RSectorS : Rep (List Sec) := RepL Sec.cells 2 70 Sec.wt (fun e => e.data.size ≤ maxLen) Sec.marks
end Go.Proofs.YtfcdienphillnaaGreat
