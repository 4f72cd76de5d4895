/- The helpers of the laws over slices of int64: sizes, copies, comparison, marks. Printed by gen_flat.py. -/
import Derived.Test.YthchdbjgjnpooaaDoorOwn
import Derived.Test.YthchdbjgjnpooaaDoorMark
namespace Go.Proofs.YthchdbjgjnpooaaDoor
set_option linter.unusedVariables false
set_option linter.unusedSimpArgs false
open Go.RowKit

def icell (e : Int) : List Value := [.int .i64 e]
theorem icell_len (e : Int) : (icell e).length = 1 := rfl
abbrev Int64L (B : Nat) (w : World) (v : Value) (l : List Int) : Prop := OwnL icell 1 2 B w v l
theorem icell_info : (Tryd.prog.info? 2).map (fun i => (i.zero, i.size, i.bytes)) = some (some (.int .i64 0), 1, 8) := by kernel_rfl
theorem Int64L.at_ {B g c k n : Nat} {w : World} {l : List Int} {e : Int} (h : Int64L B w (.slice (some ⟨g, 0, none⟩) n c) l) (hn : l.length = n) (he : l[k]? = some e) : w.cell? ⟨g, k, none⟩ = some (.int .i64 e) := by
  subst hn
  have := OwnL.cell icell_len h he (j := 0) rfl
  simpa using this
set_option maxHeartbeats 1000000 in
theorem szInt64S (l : List Int) (v : Value) (x : Int) (w : World) (hr : RawL icell 1 w v l) (hx : 0 ≤ x ∧ x ≤ 1048576) :
    Calls Tryd.prog 44 #[v, .int .i64 x] w fun e w' => e = .returned (.int .i64 (szR x l.length)) ∧ w = w' := by
  obtain ⟨A, c, rfl, hmax, hr⟩ := hr
  obtain ⟨hx0, hx1⟩ := hx
  unfold maxLen at hmax
  go_enter Tryd.func44, Tryd.ntmps44
  go_wp2
  all_goals (go_ret; refine ⟨ret_int ?_, rfl⟩; first | (rw [szR_yes (by omega)]; done) | (rw [szR_yes (by omega)]; omega) | (rw [szR_no (by omega)]))
set_option maxHeartbeats 2000000 in
theorem toInt64S (l : List Int) (v : Value) (w : World) (hr : RawL icell 1 w v l) (hn : l.length ≤ 1048576) :
    Calls Tryd.prog 46 #[v] w fun e w' => RetL icell 1 2 w l e w' := by
  obtain ⟨i0, hi, hz0, hz1, hz2⟩ := info_parts icell_info
  obtain ⟨A, c, rfl, hmax, hr⟩ := hr
  rcases hr with rfl | ⟨b, o, rfl, hlt, hc⟩
  · go_enter Tryd.func46, Tryd.ntmps46
    go_wp2_with (at_make; refine wpList_make_full _ rfl _ _ _ rfl w.heap.size 2 i0 (.int .i64 0) 1 Tryd.underlying28 hi hz0 hz1 .i64 .i64 _ _ 0 rfl rfl rfl rfl (by omega) (by unfold maxLen; omega) (Nat.le_refl _) ?_; intro w1 hown hgrow)
    refine wp_loop_once ?_
    go_wp2
    go_ret
    refine ⟨_, rfl, ?_, (Below.refl _ _).grown hgrow (Nat.le_refl _) (by simp)⟩
    rw [made_flat (f := icell) icell_len (by omega) (0 : Int) (Value.cells (.int .i64 0)) rfl] at hown
    exact hown
  · go_enter Tryd.func46, Tryd.ntmps46
    go_wp2_with (at_make; refine wpList_make_full _ rfl _ _ _ rfl w.heap.size 2 i0 (.int .i64 0) 1 Tryd.underlying28 hi hz0 hz1 .i64 .i64 _ _ l.length rfl rfl rfl rfl (by rw [hz2]; omega) (by unfold maxLen; omega) (Nat.le_refl _) ?_; intro w1 hown hgrow)
    have hb0 : Below w.heap.size w w1 := (Below.refl _ _).grown hgrow (Nat.le_refl _) (by simp)
    rw [made_flat (f := icell) icell_len (by omega) (0 : Int) (Value.cells (.int .i64 0)) rfl] at hown
    clear hgrow
    go_loopw [4] (fun i wr => ∃ k : Nat, k ≤ l.length ∧ i = .int .i64 k ∧ Below w.heap.size w wr ∧ wr.ownsRow w.heap.size 2 1 (.slice (some ⟨w.heap.size, 0, none⟩) l.length l.length) l.length (flat icell (l.take k ++ List.replicate (l.length - k) (0 : Int)))) (fun i _ => l.length - (intOf i).toNat)
    case atStart => exact ⟨0, by omega, rfl, hb0, by simpa using hown⟩
    case round =>
      obtain ⟨k, hk, rfl, hb, how⟩ := hrel
      clear hown hb0
      by_cases hltk : k < l.length
      · obtain ⟨e, he⟩ : ∃ e, l[k]? = some e := ⟨l[k]'(by omega), List.getElem?_eq_getElem (by omega)⟩
        have hz : w.heap.size ≤ wr.heap.size := hb.size
        have hg : w.heap.size < wr.heap.size := (how.lt _ rfl).2
        have p0 := (hb.cell (p := ⟨b, _, none⟩) hlt).trans (hc k e 0 _ he rfl)
        simp only [Nat.add_zero, Nat.mul_one] at p0
        clear hc
        have HO := Lib.hid how
        have q0 : wr.cell? ⟨w.heap.size, k, none⟩ = some (.int .i64 0) := by have := (how.cellAt (k * 1 + 0) (by omega)).trans (flat_get icell_len (fill_get l k (0 : Int) hltk) (j := 0) (by omega)); simpa [icell] using this
        have z0 := fun j => how.frozenAt j
        clear how
        go_wp2
        go_roundw
        case rel => exact ⟨k + 1, by omega, by go_num, (by repeat (first | exact Below.refl _ _ | refine Below.alloc ?_ (by first | omega | (simp; done) | (simp; omega)) _ | apply Below.drew | apply below_drewN | refine Below.setCell ?_ (by first | omega | (simp; done) | (simp; omega)) _ | refine Below.trans ?_ (Below.mono (by assumption) (by first | omega | (simp; done) | (simp; omega))))), by rw [← fill_set l k (0 : Int) e he, ← flat_put icell_len _ k e (by rw [fill_len l k (0 : Int) hk]; exact hltk), Nat.mul_one]; exact own_put1 HO.out _ (by rw [flat_len icell_len, fill_len l k (0 : Int) hk]; omega)⟩
        case measure => simp [intOf]; omega
      · go_wp2
        go_ret
        refine ⟨_, rfl, ?_, hb⟩
        obtain rfl : k = l.length := by omega
        simpa [OwnL] using how
set_option maxHeartbeats 2000000 in
theorem eqInt64S (l : List Int) (va vb : Value) (Ba Bb : Nat) (w : World) (ha : Int64L Ba w va l) (hb0 : Int64L Bb w vb l) (hn : l.length ≤ 8388608) :
    Calls Tryd.prog 47 #[va, vb] w fun e w' => e = .returned (.bool true) ∧ Qt w w' := by
  obtain ⟨A, c, rfl, hA⟩ := ha.shape
  obtain ⟨A', c', rfl, hA'⟩ := hb0.shape
  by_cases hl0 : l = []
  · subst hl0
    go_enter Tryd.func47, Tryd.ntmps47
    go_wp2
    refine wp_loop_once ?_
    go_wp2
    go_ret
    exact ⟨rfl, Qt.refl _⟩
  · obtain ⟨ga, rfl, _, hga⟩ := hA.resolve_left hl0
    obtain ⟨gb, rfl, _, hgb⟩ := hA'.resolve_left hl0
    clear hA hA'
    go_enter Tryd.func47, Tryd.ntmps47
    go_wp2
    go_loopw [5] (fun i wr => ∃ k : Nat, k ≤ l.length ∧ i = .int .i64 k ∧ Qt w wr) (fun i _ => l.length - (intOf i).toNat)
    case atStart => exact ⟨0, by omega, rfl, Qt.refl _⟩
    case round =>
      obtain ⟨k, hk, rfl, hq⟩ := hrel
      by_cases hltk : k < l.length
      · obtain ⟨e, he⟩ : ∃ e, l[k]? = some e := ⟨l[k]'(by omega), List.getElem?_eq_getElem (by omega)⟩
        have r0 : wr.cell? ⟨ga, k, none⟩ = some (.int .i64 e) := (hq.cell _).trans (Int64L.at_ ha rfl he)
        have s0 : wr.cell? ⟨gb, k, none⟩ = some (.int .i64 e) := (hq.cell _).trans (Int64L.at_ hb0 rfl he)
        have j0 : (0 : Int) ≤ (k : Int) := by omega
        have j1 : (k : Int) < (l.length : Int) := by omega
        go_wp2
        go_quiet (fail)
        go_wp2
        go_roundw
        case rel => exact ⟨k + 1, by omega, by go_num, hq.drewN _⟩
        case measure => simp [intOf]; omega
      · go_wp2
        go_ret
        exact ⟨rfl, hq⟩
def icellM (k : Nat) : Int := ((k : Nat) : Int)
def icellMs (k n : Nat) : List Int := (List.range n).map fun i => icellM (k + i)
theorem icellMs_len (k n : Nat) : (icellMs k n).length = n := by simp [icellMs]
theorem icellMs_get (k n i : Nat) (h : i < n) : (icellMs k n)[i]? = some (icellM (k + i)) := by simp [icellMs, h]
theorem icellMs_succ (k n : Nat) : icellMs k (n + 1) = icellMs k n ++ [icellM (k + n)] := by simp [icellMs, List.range_succ]
theorem icell_mid_get (k0 k : Nat) (l : List Int) : (icellMs k0 k ++ l.drop k)[k]? = l[k]? := by
  rw [List.getElem?_append_right (by rw [icellMs_len]; omega), icellMs_len, Nat.sub_self, List.getElem?_drop, Nat.add_zero]
theorem icell_mid_len (k0 k : Nat) (l : List Int) (h : k ≤ l.length) : (icellMs k0 k ++ l.drop k).length = l.length := by simp [icellMs_len]; omega
theorem icell_mid_set (k0 k : Nat) (l : List Int) (h : k < l.length) : (icellMs k0 k ++ l.drop k).set k (icellM (k0 + k)) = icellMs k0 (k + 1) ++ l.drop (k + 1) := by
  rw [List.set_append_right _ _ (by rw [icellMs_len]; omega), icellMs_len, Nat.sub_self, List.drop_eq_getElem_cons h, List.set_cons_zero, icellMs_succ, List.append_assoc]; rfl
def MarkedInt64 (B : Nat) (w : World) (v : Value) (k0 n : Nat) (e : Ending) (w' : World) : Prop :=
  e = .returned (.int .i64 ((k0 + n : Nat) : Int)) ∧ Int64L B w' v (icellMs k0 n) ∧ w.grownBy w' v.ownBlock
set_option maxHeartbeats 2000000 in
theorem markInt64S (l : List Int) (v : Value) (k0 : Nat) (B : Nat) (w : World) (h : Int64L B w v l) (hn : l.length ≤ 8388608) (h0 : 1 ≤ k0) (hk0 : k0 ≤ 67108864) :
    Calls Tryd.prog 34 #[v, .int .i64 k0] w fun e w' => MarkedInt64 B w v k0 l.length e w' := by
  obtain ⟨A, c, rfl, hA⟩ := h.shape
  by_cases hl0 : l = []
  · subst hl0
    have HR : Hid (MarkedInt64 B w (.slice A 0 c) k0 0 (.returned (.int .i64 k0)) w) := Lib.hid ⟨by simp, h, World.grownBy.refl w _⟩
    go_enter Tryd.func34, Tryd.ntmps34
    go_wp2
    refine wp_loop_once ?_
    go_wp2
    go_ret
    exact HR.out
  · obtain ⟨g, rfl, _, hg0⟩ := hA.resolve_left hl0
    clear hA
    go_enter Tryd.func34, Tryd.ntmps34
    go_wp2
    go_loopw [5, 1] (fun i m wr => ∃ k : Nat, k ≤ l.length ∧ i = .int .i64 k ∧ m = .int .i64 ((k0 + k : Nat) : Int) ∧ w.grownBy wr (some g) ∧ wr.ownsRow B 2 1 (.slice (some ⟨g, 0, none⟩) l.length c) l.length (flat icell (icellMs k0 k ++ l.drop k))) (fun i _ _ => l.length - (intOf i).toNat)
    case atStart => exact ⟨0, by omega, rfl, by simp, World.grownBy.refl w _, by unfold Int64L OwnL at h; simpa [icellMs] using h⟩
    case round =>
      obtain ⟨k, hk, rfl, rfl, hg, how⟩ := hrel
      by_cases hltk : k < l.length
      · obtain ⟨e, he⟩ : ∃ e, l[k]? = some e := ⟨l[k]'(by omega), List.getElem?_eq_getElem (by omega)⟩
        have HG := Lib.hid ((icell_mid_get k0 k l).trans he)
        have HO := Lib.hid how
        have HW := Lib.hid hg
        clear how hg h
        have HO1 := HO; have HG1 := HW; have q0 : wr.cell? ⟨g, k, none⟩ = some (.int .i64 e) := (by have := (HO1.out.cellAt (k * 1 + 0) (by omega)).trans (flat_get icell_len HG.out (j := 0) (by omega)); simpa [icell] using this); have z0 := fun j => HO1.out.frozenAt j; go_wp2
        go_roundw
        case rel => exact ⟨k + 1, by omega, by go_num, by first | (congr 1; done) | (congr 1; omega), gset HG1.out _ _, by rw [← icell_mid_set k0 k l hltk, ← flat_put icell_len _ k _ (by rw [icell_mid_len k0 k l hk]; exact hltk), Nat.mul_one]; exact own_put1 HO1.out (.int .i64 ((k0 + k : Nat) : Int)) (by rw [flat_len icell_len, icell_mid_len k0 k l hk]; omega)⟩
        case measure => simp [intOf]; omega
      · obtain rfl : k = l.length := by omega
        go_wp2
        go_ret
        exact ⟨rfl, by simpa [OwnL, icellMs_len] using how, hg⟩
set_option maxHeartbeats 2000000 in
theorem heldInt64S (n : Nat) (v : Value) (k0 : Nat) (B : Nat) (w : World) (h : Int64L B w v (icellMs k0 n)) (hn : n ≤ 8388608) (h0 : 1 ≤ k0) (hk0 : k0 ≤ 67108864) :
    Calls Tryd.prog 35 #[v, .int .i64 k0] w fun e w' => e = .returned (.int .i64 ((k0 + n : Nat) : Int)) ∧ Below w.heap.size w w' := by
  obtain ⟨A, c, rfl, hA⟩ := h.shape
  have hl : (icellMs k0 n).length = n := icellMs_len k0 n
  by_cases hl0 : n = 0
  · subst hl0
    go_enter Tryd.func35, Tryd.ntmps35
    go_wp2
    refine wp_loop_once ?_
    go_wp2
    go_ret
    exact ⟨rfl, Below.refl _ _⟩
  · obtain ⟨g, rfl, _, hg0⟩ := hA.resolve_left (by intro e; rw [e] at hl; simp at hl; omega)
    have hcl : ∀ k, k < n → w.cell? ⟨g, k, none⟩ = some (.int .i64 ((k0 + k : Nat) : Int)) := fun k hk => Int64L.at_ h rfl (icellMs_get k0 n k hk)
    have HC := Lib.hid hcl
    clear hA hcl
    rw [hl]
    clear hl
    go_enter Tryd.func35, Tryd.ntmps35
    go_wp2
    go_loopw [5, 1] (fun i m wr => ∃ k : Nat, k ≤ n ∧ i = .int .i64 k ∧ m = .int .i64 ((k0 + k : Nat) : Int) ∧ Below w.heap.size w wr) (fun i _ _ => n - (intOf i).toNat)
    case atStart => exact ⟨0, by omega, rfl, by simp, Below.refl _ _⟩
    case round =>
      obtain ⟨k, hk, rfl, rfl, hb⟩ := hrel
      by_cases hltk : k < n
      · have c0 := HC.out k hltk
        have s0 : wr.cell? ⟨g, k, none⟩ = some (.int .i64 ((k0 + k : Nat) : Int)) := (hb.cell (p := ⟨g, _, none⟩) hg0).trans c0
        go_wp2
        go_roundw
        case rel => exact ⟨k + 1, by omega, by go_num, by first | (congr 1; done) | (congr 1; omega), (by repeat (first | exact Below.refl _ _ | refine Below.alloc ?_ (by first | omega | (simp; done) | (simp; omega)) _ | apply Below.drew | apply below_drewN | refine Below.setCell ?_ (by first | omega | (simp; done) | (simp; omega)) _ | refine Below.trans ?_ (Below.mono (by assumption) (by first | omega | (simp; done) | (simp; omega)))))⟩
        case measure => simp [intOf]; omega
      · obtain rfl : k = n := by omega
        go_wp2
        go_ret
        exact ⟨rfl, hb⟩
/-- []int64 in memory -/
def RInt64S : Rep (List Int) := RepL icell 1 2 (fun e => 0) (fun e => True) icellMs
theorem r_retInt64S {F : FuncId} {args : Array Value} {w : World} {l : List Int} (h : Calls Tryd.prog F args w fun e w' => RetL icell 1 2 w l e w') : Calls Tryd.prog F args w fun e w' => RInt64S.ret w l e w' := h.mono fun _ _ h => h.rep
theorem r_markInt64S (l : List Int) (v : Value) (k0 B E : Nat) (w : World) (h : RInt64S.own B E w v l) (hn : RInt64S.cnt l ≤ 8388608) (h0 : 1 ≤ k0) (hk : k0 ≤ 67108864) :
    Calls Tryd.prog 34 #[v, .int .i64 k0] w fun e w' => RInt64S.marked B E w v k0 l e w' :=
  (markInt64S l v k0 B w h.1 (by have : l.length * 1 ≤ 8388608 := hn; omega) h0 hk).mono fun _ _ ⟨h1, h2, h3⟩ => ⟨by rw [h1]; show _ = Ending.returned (.int .i64 ((k0 + l.length * 1 : Nat) : Int)); rw [Nat.mul_one], ⟨h2, h.2⟩, Chg.of_grown h3 fun g hg => ⟨(h.1.lt g hg).1, h.2 g hg⟩⟩
theorem r_heldInt64S (l : List Int) (v : Value) (k0 B E : Nat) (w : World) (h : RInt64S.own B E w v (RInt64S.mark k0 l)) (hn : RInt64S.cnt l ≤ 8388608) (h0 : 1 ≤ k0) (hk : k0 ≤ 67108864) :
    Calls Tryd.prog 35 #[v, .int .i64 k0] w fun e w' => e = .returned (.int .i64 ((k0 + RInt64S.cnt l : Nat) : Int)) ∧ Below w.heap.size w w' :=
  (heldInt64S l.length v k0 B w h.1 (by have : l.length * 1 ≤ 8388608 := hn; omega) h0 hk).mono fun _ _ ⟨h1, h2⟩ => ⟨by rw [h1]; show _ = Ending.returned (.int .i64 ((k0 + l.length * 1 : Nat) : Int)); rw [Nat.mul_one], h2⟩
theorem r_eqInt64S (l : List Int) (va vb : Value) (B E B' E' : Nat) (w : World) (ha : RInt64S.own B E w va l) (hb : RInt64S.own B' E' w vb l) (hn : RInt64S.cnt l ≤ 8388608) :
    Calls Tryd.prog 47 #[va, vb] w fun e w' => e = .returned (.bool true) ∧ Below w.heap.size w w' :=
  (eqInt64S l va vb B B' w ha.1 hb.1 (by have : l.length * 1 ≤ 8388608 := hn; omega)).mono fun _ _ ⟨h1, h2⟩ => ⟨h1, h2.below _⟩
theorem r_toInt64S (l : List Int) (v : Value) (w : World) (h : RInt64S.raw w v l) (hn : l.length ≤ 1048576) :
    Calls Tryd.prog 46 #[v] w fun e w' => RInt64S.ret w l e w' := (toInt64S l v w h.1 hn).mono fun _ _ h => h.rep
theorem izero (l : List Int) : (l.map fun _ => (0 : Nat)).foldr (· + ·) 0 = 0 := by
  induction l with
  | nil => rfl
  | cons a l ih => show 0 + _ = 0; rw [ih]
theorem r_szInt64S (l : List Int) (v : Value) (x0 : Int) (w : World) (h : RInt64S.raw w v l) (hx : 0 ≤ x0 ∧ x0 ≤ 1048576) :
    Calls Tryd.prog 44 #[v, .int .i64 x0] w fun e w' => e = .returned (.int .i64 (szR x0 (RInt64S.wt l))) ∧ Below w.heap.size w w' :=
  (szInt64S l v x0 w h.1 hx).mono fun _ _ ⟨h1, h2⟩ => ⟨by rw [h1]; exact ret_int (by congr 1; show l.length = l.length + (l.map fun _ => 0).foldr (· + ·) 0; rw [izero]; rfl), by subst h2; exact Below.refl _ _⟩
end Go.Proofs.YthchdbjgjnpooaaDoor
