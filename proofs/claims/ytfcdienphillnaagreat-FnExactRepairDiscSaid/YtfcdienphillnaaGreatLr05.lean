/- The laws' own helpers over one disc, marks and rows of its box. The helpers of the laws over slices of int64: sizes, copies, comparison, marks. Printed by gen_flat.py. The helpers of the laws over slices of string: sizes, copies, comparison, marks. Printed by gen_flat.py. -/
import Derived.Test.YtfcdienphillnaaGreatLr03
import Derived.Test.YtfcdienphillnaaGreatLr01
import Derived.Test.YtfcdienphillnaaGreatLr02
namespace Go.Proofs.YtfcdienphillnaaGreat
set_option linter.unusedVariables false
set_option linter.unusedSimpArgs false
open Go.RowKit
def Row (w : World) (b : Nat) (us : List Value) : Prop := ∀ j u, us[j]? = some u → w.cell? ⟨b, j, none⟩ = some u
theorem Row.below {w w' : World} {b : Nat} {us : List Value} (h : Row w b us) (hb : Below w.heap.size w w') (hl : b < w.heap.size) : Row w' b us := fun j u hu => (hb.cell (p := ⟨b, j, none⟩) hl).trans (h j u hu)
theorem Row.alloc (w : World) (cs : Array Value) (e : TypeId) : Row (w.alloc (.cells cs e)) w.heap.size cs.toList := by
  intro j u hu
  simp [go_sem]
  simpa using hu
abbrev dscL (d : Dsc) (v : Value) : List Value := [.int .i64 d.cyl, .int .i64 d.heads, .int .i64 d.per, .int .i64 d.size, v]
abbrev OwnD (B E : Nat) (w : World) (v : Value) (l : List Sec) : Prop := RSectorS.own B E w v l
theorem OwnD.of {B : Nat} {w : World} {v : Value} {l : List Sec} (h : SecOwn B w v l) : OwnD B w.heap.size w v l := ⟨h, fun g hg => (World.ownsRow.lt h g hg).2⟩
theorem OwnD.below {B E : Nat} {w w' : World} {v : Value} {l : List Sec} (h : OwnD B E w v l) (hb : Below w.heap.size w w') : OwnD B E w' v l := Rep.keep (R := RSectorS) h hb
theorem OwnD.chg {B E B' E' : Nat} {w w' : World} {v : Value} {l : List Sec} (h : OwnD B E w v l) (hc : Chg B' E' w w') (hd : E ≤ B' ∨ E' ≤ B) : OwnD B E w' v l := RSectorS.chg h hc hd
theorem Row.chg {w w' : World} {b B E : Nat} {us : List Value} (h : Row w b us) (hc : Chg B E w w') (hl : b < w.heap.size) (hd : b < B ∨ E ≤ b) : Row w' b us := fun j u hu => (World.cell?_of_block (a := ⟨b, j, none⟩) (hc.block b hl (by omega))).trans (h j u hu)
abbrev Five (d : Dsc) (v : Value) (b : Nat) (w : World) : Prop := w.cell? ⟨b, 0, none⟩ = some (.int .i64 d.cyl) ∧ w.cell? ⟨b, 1, none⟩ = some (.int .i64 d.heads) ∧ w.cell? ⟨b, 2, none⟩ = some (.int .i64 d.per) ∧ w.cell? ⟨b, 3, none⟩ = some (.int .i64 d.size) ∧ w.cell? ⟨b, 4, none⟩ = some v
end Go.Proofs.YtfcdienphillnaaGreat
namespace Go.Proofs.YtfcdienphillnaaGreat
set_option linter.unusedVariables false
set_option linter.unusedSimpArgs false
open Go.RowKit

def icell (e : Int) : List Value := [.int .i64 e]
theorem icell_len (e : Int) : (icell e).length = 1 := rfl
abbrev Int64L (B : Nat) (w : World) (v : Value) (l : List Int) : Prop := OwnL icell 1 2 B w v l
theorem icell_info : (Tryz.prog.info? 2).map (fun i => (i.zero, i.size, i.bytes)) = some (some (.int .i64 0), 1, 8) := by kernel_rfl
theorem Int64L.at_ {B g c k n : Nat} {w : World} {l : List Int} {e : Int} (h : Int64L B w (.slice (some ⟨g, 0, none⟩) n c) l) (hn : l.length = n) (he : l[k]? = some e) : w.cell? ⟨g, k, none⟩ = some (.int .i64 e) := by
  subst hn
  have := OwnL.cell icell_len h he (j := 0) rfl
  simpa using this
set_option maxHeartbeats 1000000 in
theorem szInt64S (l : List Int) (v : Value) (x : Int) (w : World) (hr : RawL icell 1 w v l) (hx : 0 ≤ x ∧ x ≤ 1048576) :
    Calls Tryz.prog 38 #[v, .int .i64 x] w fun e w' => e = .returned (.int .i64 (szR x l.length)) ∧ w = w' := by
  obtain ⟨A, c, rfl, hmax, hr⟩ := hr
  obtain ⟨hx0, hx1⟩ := hx
  unfold maxLen at hmax
  go_enter Tryz.func38, Tryz.ntmps38
  go_wp2
  all_goals (go_ret; refine ⟨ret_int ?_, rfl⟩; first | (rw [szR_yes (by omega)]; done) | (rw [szR_yes (by omega)]; omega) | (rw [szR_no (by omega)]))
set_option maxHeartbeats 2000000 in
theorem toInt64S (l : List Int) (v : Value) (w : World) (hr : RawL icell 1 w v l) (hn : l.length ≤ 1048576) :
    Calls Tryz.prog 46 #[v] w fun e w' => RetL icell 1 2 w l e w' := by
  obtain ⟨i0, hi, hz0, hz1, hz2⟩ := info_parts icell_info
  obtain ⟨A, c, rfl, hmax, hr⟩ := hr
  rcases hr with rfl | ⟨b, o, rfl, hlt, hc⟩
  · go_enter Tryz.func46, Tryz.ntmps46
    go_wp2_with (at_make; refine wpList_make_full _ rfl _ _ _ rfl w.heap.size 2 i0 (.int .i64 0) 1 Tryz.underlying23 hi hz0 hz1 .i64 .i64 _ _ 0 rfl rfl rfl rfl (by omega) (by unfold maxLen; omega) (Nat.le_refl _) ?_; intro w1 hown hgrow)
    refine wp_loop_once ?_
    go_wp2
    go_ret
    refine ⟨_, rfl, ?_, (Below.refl _ _).grown hgrow (Nat.le_refl _) (by simp)⟩
    rw [made_flat (f := icell) icell_len (by omega) (0 : Int) (Value.cells (.int .i64 0)) rfl] at hown
    exact hown
  · go_enter Tryz.func46, Tryz.ntmps46
    go_wp2_with (at_make; refine wpList_make_full _ rfl _ _ _ rfl w.heap.size 2 i0 (.int .i64 0) 1 Tryz.underlying23 hi hz0 hz1 .i64 .i64 _ _ l.length rfl rfl rfl rfl (by rw [hz2]; omega) (by unfold maxLen; omega) (Nat.le_refl _) ?_; intro w1 hown hgrow)
    have hb0 : Below w.heap.size w w1 := (Below.refl _ _).grown hgrow (Nat.le_refl _) (by simp)
    rw [made_flat (f := icell) icell_len (by omega) (0 : Int) (Value.cells (.int .i64 0)) rfl] at hown
    clear hgrow
    go_loopw [4] (fun i wr => ∃ k : Nat, k ≤ l.length ∧ i = .int .i64 k ∧ Below w.heap.size w wr ∧ wr.ownsRow w.heap.size 2 1 (.slice (some ⟨w.heap.size, 0, none⟩) l.length l.length) l.length (flat icell (l.take k ++ List.replicate (l.length - k) (0 : Int)))) (fun i _ => l.length - (intOf i).toNat)
    case atStart => exact ⟨0, by omega, rfl, hb0, by simpa using hown⟩
    case round =>
      obtain ⟨k, hk, rfl, hb, how⟩ := hrel
      clear hown hb0
      by_cases hltk : k < l.length
      · obtain ⟨e, he⟩ : ∃ e, l[k]? = some e := ⟨l[k]'(by omega), List.getElem?_eq_getElem (by omega)⟩
        have hz : w.heap.size ≤ wr.heap.size := hb.size
        have hg : w.heap.size < wr.heap.size := (how.lt _ rfl).2
        have p0 := (hb.cell (p := ⟨b, _, none⟩) hlt).trans (hc k e 0 _ he rfl)
        simp only [Nat.add_zero, Nat.mul_one] at p0
        clear hc
        have HO := Lib.hid how
        have q0 : wr.cell? ⟨w.heap.size, k, none⟩ = some (.int .i64 0) := by have := (how.cellAt (k * 1 + 0) (by omega)).trans (flat_get icell_len (fill_get l k (0 : Int) hltk) (j := 0) (by omega)); simpa [icell] using this
        have z0 := fun j => how.frozenAt j
        clear how
        go_wp2
        go_roundw
        case rel => exact ⟨k + 1, by omega, by go_num, (by repeat (first | exact Below.refl _ _ | refine Below.alloc ?_ (by first | omega | (simp; done) | (simp; omega)) _ | apply Below.drew | apply below_drewN | refine Below.setCell ?_ (by first | omega | (simp; done) | (simp; omega)) _ | refine Below.trans ?_ (Below.mono (by assumption) (by first | omega | (simp; done) | (simp; omega))))), by rw [← fill_set l k (0 : Int) e he, ← flat_put icell_len _ k e (by rw [fill_len l k (0 : Int) hk]; exact hltk), Nat.mul_one]; exact own_put1 HO.out _ (by rw [flat_len icell_len, fill_len l k (0 : Int) hk]; omega)⟩
        case measure => simp [intOf]; omega
      · go_wp2
        go_ret
        refine ⟨_, rfl, ?_, hb⟩
        obtain rfl : k = l.length := by omega
        simpa [OwnL] using how
set_option maxHeartbeats 2000000 in
theorem eqInt64S (l : List Int) (va vb : Value) (Ba Bb : Nat) (w : World) (ha : Int64L Ba w va l) (hb0 : Int64L Bb w vb l) (hn : l.length ≤ 8388608) :
    Calls Tryz.prog 23 #[va, vb] w fun e w' => e = .returned (.bool true) ∧ Qt w w' := by
  obtain ⟨A, c, rfl, hA⟩ := ha.shape
  obtain ⟨A', c', rfl, hA'⟩ := hb0.shape
  by_cases hl0 : l = []
  · subst hl0
    go_enter Tryz.func23, Tryz.ntmps23
    go_wp2
    refine wp_loop_once ?_
    go_wp2
    go_ret
    exact ⟨rfl, Qt.refl _⟩
  · obtain ⟨ga, rfl, _, hga⟩ := hA.resolve_left hl0
    obtain ⟨gb, rfl, _, hgb⟩ := hA'.resolve_left hl0
    clear hA hA'
    go_enter Tryz.func23, Tryz.ntmps23
    go_wp2
    go_loopw [5] (fun i wr => ∃ k : Nat, k ≤ l.length ∧ i = .int .i64 k ∧ Qt w wr) (fun i _ => l.length - (intOf i).toNat)
    case atStart => exact ⟨0, by omega, rfl, Qt.refl _⟩
    case round =>
      obtain ⟨k, hk, rfl, hq⟩ := hrel
      by_cases hltk : k < l.length
      · obtain ⟨e, he⟩ : ∃ e, l[k]? = some e := ⟨l[k]'(by omega), List.getElem?_eq_getElem (by omega)⟩
        have r0 : wr.cell? ⟨ga, k, none⟩ = some (.int .i64 e) := (hq.cell _).trans (Int64L.at_ ha rfl he)
        have s0 : wr.cell? ⟨gb, k, none⟩ = some (.int .i64 e) := (hq.cell _).trans (Int64L.at_ hb0 rfl he)
        have j0 : (0 : Int) ≤ (k : Int) := by omega
        have j1 : (k : Int) < (l.length : Int) := by omega
        go_wp2
        go_quiet (fail)
        go_wp2
        go_roundw
        case rel => exact ⟨k + 1, by omega, by go_num, hq.drewN _⟩
        case measure => simp [intOf]; omega
      · go_wp2
        go_ret
        exact ⟨rfl, hq⟩
def icellM (k : Nat) : Int := ((k : Nat) : Int)
def icellMs (k n : Nat) : List Int := (List.range n).map fun i => icellM (k + i)
theorem icellMs_len (k n : Nat) : (icellMs k n).length = n := by simp [icellMs]
theorem icellMs_get (k n i : Nat) (h : i < n) : (icellMs k n)[i]? = some (icellM (k + i)) := by simp [icellMs, h]
theorem icellMs_succ (k n : Nat) : icellMs k (n + 1) = icellMs k n ++ [icellM (k + n)] := by simp [icellMs, List.range_succ]
theorem icell_mid_get (k0 k : Nat) (l : List Int) : (icellMs k0 k ++ l.drop k)[k]? = l[k]? := by
  rw [List.getElem?_append_right (by rw [icellMs_len]; omega), icellMs_len, Nat.sub_self, List.getElem?_drop, Nat.add_zero]
theorem icell_mid_len (k0 k : Nat) (l : List Int) (h : k ≤ l.length) : (icellMs k0 k ++ l.drop k).length = l.length := by simp [icellMs_len]; omega
theorem icell_mid_set (k0 k : Nat) (l : List Int) (h : k < l.length) : (icellMs k0 k ++ l.drop k).set k (icellM (k0 + k)) = icellMs k0 (k + 1) ++ l.drop (k + 1) := by
  rw [List.set_append_right _ _ (by rw [icellMs_len]; omega), icellMs_len, Nat.sub_self, List.drop_eq_getElem_cons h, List.set_cons_zero, icellMs_succ, List.append_assoc]; rfl
def MarkedInt64 (B : Nat) (w : World) (v : Value) (k0 n : Nat) (e : Ending) (w' : World) : Prop :=
  e = .returned (.int .i64 ((k0 + n : Nat) : Int)) ∧ Int64L B w' v (icellMs k0 n) ∧ w.grownBy w' v.ownBlock
set_option maxHeartbeats 2000000 in
theorem markInt64S (l : List Int) (v : Value) (k0 : Nat) (B : Nat) (w : World) (h : Int64L B w v l) (hn : l.length ≤ 8388608) (h0 : 1 ≤ k0) (hk0 : k0 ≤ 67108864) :
    Calls Tryz.prog 25 #[v, .int .i64 k0] w fun e w' => MarkedInt64 B w v k0 l.length e w' := by
  obtain ⟨A, c, rfl, hA⟩ := h.shape
  by_cases hl0 : l = []
  · subst hl0
    have HR : Hid (MarkedInt64 B w (.slice A 0 c) k0 0 (.returned (.int .i64 k0)) w) := Lib.hid ⟨by simp, h, World.grownBy.refl w _⟩
    go_enter Tryz.func25, Tryz.ntmps25
    go_wp2
    refine wp_loop_once ?_
    go_wp2
    go_ret
    exact HR.out
  · obtain ⟨g, rfl, _, hg0⟩ := hA.resolve_left hl0
    clear hA
    go_enter Tryz.func25, Tryz.ntmps25
    go_wp2
    go_loopw [5, 1] (fun i m wr => ∃ k : Nat, k ≤ l.length ∧ i = .int .i64 k ∧ m = .int .i64 ((k0 + k : Nat) : Int) ∧ w.grownBy wr (some g) ∧ wr.ownsRow B 2 1 (.slice (some ⟨g, 0, none⟩) l.length c) l.length (flat icell (icellMs k0 k ++ l.drop k))) (fun i _ _ => l.length - (intOf i).toNat)
    case atStart => exact ⟨0, by omega, rfl, by simp, World.grownBy.refl w _, by unfold Int64L OwnL at h; simpa [icellMs] using h⟩
    case round =>
      obtain ⟨k, hk, rfl, rfl, hg, how⟩ := hrel
      by_cases hltk : k < l.length
      · obtain ⟨e, he⟩ : ∃ e, l[k]? = some e := ⟨l[k]'(by omega), List.getElem?_eq_getElem (by omega)⟩
        have HG := Lib.hid ((icell_mid_get k0 k l).trans he)
        have HO := Lib.hid how
        have HW := Lib.hid hg
        clear how hg h
        have HO1 := HO; have HG1 := HW; have q0 : wr.cell? ⟨g, k, none⟩ = some (.int .i64 e) := (by have := (HO1.out.cellAt (k * 1 + 0) (by omega)).trans (flat_get icell_len HG.out (j := 0) (by omega)); simpa [icell] using this); have z0 := fun j => HO1.out.frozenAt j; go_wp2
        go_roundw
        case rel => exact ⟨k + 1, by omega, by go_num, by first | (congr 1; done) | (congr 1; omega), gset HG1.out _ _, by rw [← icell_mid_set k0 k l hltk, ← flat_put icell_len _ k _ (by rw [icell_mid_len k0 k l hk]; exact hltk), Nat.mul_one]; exact own_put1 HO1.out (.int .i64 ((k0 + k : Nat) : Int)) (by rw [flat_len icell_len, icell_mid_len k0 k l hk]; omega)⟩
        case measure => simp [intOf]; omega
      · obtain rfl : k = l.length := by omega
        go_wp2
        go_ret
        exact ⟨rfl, by simpa [OwnL, icellMs_len] using how, hg⟩
set_option maxHeartbeats 2000000 in
theorem heldInt64S (n : Nat) (v : Value) (k0 : Nat) (B : Nat) (w : World) (h : Int64L B w v (icellMs k0 n)) (hn : n ≤ 8388608) (h0 : 1 ≤ k0) (hk0 : k0 ≤ 67108864) :
    Calls Tryz.prog 26 #[v, .int .i64 k0] w fun e w' => e = .returned (.int .i64 ((k0 + n : Nat) : Int)) ∧ Below w.heap.size w w' := by
  obtain ⟨A, c, rfl, hA⟩ := h.shape
  have hl : (icellMs k0 n).length = n := icellMs_len k0 n
  by_cases hl0 : n = 0
  · subst hl0
    go_enter Tryz.func26, Tryz.ntmps26
    go_wp2
    refine wp_loop_once ?_
    go_wp2
    go_ret
    exact ⟨rfl, Below.refl _ _⟩
  · obtain ⟨g, rfl, _, hg0⟩ := hA.resolve_left (by intro e; rw [e] at hl; simp at hl; omega)
    have hcl : ∀ k, k < n → w.cell? ⟨g, k, none⟩ = some (.int .i64 ((k0 + k : Nat) : Int)) := fun k hk => Int64L.at_ h rfl (icellMs_get k0 n k hk)
    have HC := Lib.hid hcl
    clear hA hcl
    rw [hl]
    clear hl
    go_enter Tryz.func26, Tryz.ntmps26
    go_wp2
    go_loopw [5, 1] (fun i m wr => ∃ k : Nat, k ≤ n ∧ i = .int .i64 k ∧ m = .int .i64 ((k0 + k : Nat) : Int) ∧ Below w.heap.size w wr) (fun i _ _ => n - (intOf i).toNat)
    case atStart => exact ⟨0, by omega, rfl, by simp, Below.refl _ _⟩
    case round =>
      obtain ⟨k, hk, rfl, rfl, hb⟩ := hrel
      by_cases hltk : k < n
      · have c0 := HC.out k hltk
        have s0 : wr.cell? ⟨g, k, none⟩ = some (.int .i64 ((k0 + k : Nat) : Int)) := (hb.cell (p := ⟨g, _, none⟩) hg0).trans c0
        go_wp2
        go_roundw
        case rel => exact ⟨k + 1, by omega, by go_num, by first | (congr 1; done) | (congr 1; omega), (by repeat (first | exact Below.refl _ _ | refine Below.alloc ?_ (by first | omega | (simp; done) | (simp; omega)) _ | apply Below.drew | apply below_drewN | refine Below.setCell ?_ (by first | omega | (simp; done) | (simp; omega)) _ | refine Below.trans ?_ (Below.mono (by assumption) (by first | omega | (simp; done) | (simp; omega)))))⟩
        case measure => simp [intOf]; omega
      · obtain rfl : k = n := by omega
        go_wp2
        go_ret
        exact ⟨rfl, hb⟩
/- []int64 in memory -/
def RInt64S : Rep (List Int) := RepL icell 1 2 (fun e => 0) (fun e => True) icellMs
theorem r_markInt64S (l : List Int) (v : Value) (k0 B E : Nat) (w : World) (h : RInt64S.own B E w v l) (hn : RInt64S.cnt l ≤ 8388608) (h0 : 1 ≤ k0) (hk : k0 ≤ 67108864) :
    Calls Tryz.prog 25 #[v, .int .i64 k0] w fun e w' => RInt64S.marked B E w v k0 l e w' :=
  (markInt64S l v k0 B w h.1 (by have : l.length * 1 ≤ 8388608 := hn; omega) h0 hk).mono fun _ _ ⟨h1, h2, h3⟩ => ⟨by rw [h1]; show _ = Ending.returned (.int .i64 ((k0 + l.length * 1 : Nat) : Int)); rw [Nat.mul_one], ⟨h2, h.2⟩, Chg.of_grown h3 fun g hg => ⟨(h.1.lt g hg).1, h.2 g hg⟩⟩
theorem r_heldInt64S (l : List Int) (v : Value) (k0 B E : Nat) (w : World) (h : RInt64S.own B E w v (RInt64S.mark k0 l)) (hn : RInt64S.cnt l ≤ 8388608) (h0 : 1 ≤ k0) (hk : k0 ≤ 67108864) :
    Calls Tryz.prog 26 #[v, .int .i64 k0] w fun e w' => e = .returned (.int .i64 ((k0 + RInt64S.cnt l : Nat) : Int)) ∧ Below w.heap.size w w' :=
  (heldInt64S l.length v k0 B w h.1 (by have : l.length * 1 ≤ 8388608 := hn; omega) h0 hk).mono fun _ _ ⟨h1, h2⟩ => ⟨by rw [h1]; show _ = Ending.returned (.int .i64 ((k0 + l.length * 1 : Nat) : Int)); rw [Nat.mul_one], h2⟩
theorem r_eqInt64S (l : List Int) (va vb : Value) (B E B' E' : Nat) (w : World) (ha : RInt64S.own B E w va l) (hb : RInt64S.own B' E' w vb l) (hn : RInt64S.cnt l ≤ 8388608) :
    Calls Tryz.prog 23 #[va, vb] w fun e w' => e = .returned (.bool true) ∧ Below w.heap.size w w' :=
  (eqInt64S l va vb B B' w ha.1 hb.1 (by have : l.length * 1 ≤ 8388608 := hn; omega)).mono fun _ _ ⟨h1, h2⟩ => ⟨h1, h2.below _⟩
theorem r_toInt64S (l : List Int) (v : Value) (w : World) (h : RInt64S.raw w v l) (hn : l.length ≤ 1048576) :
    Calls Tryz.prog 46 #[v] w fun e w' => RInt64S.ret w l e w' := (toInt64S l v w h.1 hn).mono fun _ _ h => h.rep
end Go.Proofs.YtfcdienphillnaaGreat
namespace Go.Proofs.YtfcdienphillnaaGreat
set_option linter.unusedVariables false
set_option linter.unusedSimpArgs false
open Go.RowKit

def scell (e : ByteArray) : List Value := [.string e]
theorem scell_len (e : ByteArray) : (scell e).length = 1 := rfl
abbrev StringL (B : Nat) (w : World) (v : Value) (l : List ByteArray) : Prop := OwnL scell 1 9 B w v l
theorem scell_info : (Tryz.prog.info? 9).map (fun i => (i.zero, i.size, i.bytes)) = some (some (.string .empty), 1, 16) := by kernel_rfl
theorem StringL.at_ {B g c k n : Nat} {w : World} {l : List ByteArray} {e : ByteArray} (h : StringL B w (.slice (some ⟨g, 0, none⟩) n c) l) (hn : l.length = n) (he : l[k]? = some e) : w.cell? ⟨g, k, none⟩ = some (.string e) := by
  subst hn
  have := OwnL.cell scell_len h he (j := 0) rfl
  simpa using this
def swts (l : List ByteArray) : Nat := (l.map ByteArray.size).foldr (· + ·) 0
theorem swts_drop {l : List ByteArray} {k : Nat} {e : ByteArray} (he : l[k]? = some e) : swts (l.drop k) = e.size + swts (l.drop (k + 1)) := by
  obtain ⟨h, rfl⟩ := List.getElem?_eq_some_iff.1 he
  rw [List.drop_eq_getElem_cons h]; rfl
set_option maxHeartbeats 2000000 in
theorem szStringS (l : List ByteArray) (v : Value) (x0 : Int) (w : World) (hr : RawL scell 1 w v l) (hm : ∀ e ∈ l, e.size ≤ maxLen) (hx : 0 ≤ x0 ∧ x0 ≤ 1048576) :
    Calls Tryz.prog 39 #[v, .int .i64 x0] w fun e w' => e = .returned (.int .i64 (szR x0 (l.length + swts l))) ∧ w = w' := by
  obtain ⟨A, c, rfl, hmax, hr⟩ := hr
  obtain ⟨hx0, hx1⟩ := hx
  unfold maxLen at hmax
  by_cases hlen : (l.length : Int) ≤ x0
  · rcases hr with rfl | ⟨b, o, rfl, hlt, hc⟩
    · have HX : Hid (szR x0 0 = x0) := Lib.hid (by rw [szR_yes (by omega)]; omega)
      go_enter Tryz.func39, Tryz.ntmps39
      go_wp2
      refine wp_loop_once ?_
      go_wp2
      go_ret
      exact ⟨ret_int HX.out.symm, rfl⟩
    · go_enter Tryz.func39, Tryz.ntmps39
      go_wp2
      go_loop [5, 1] (fun i left => ∃ (k : Nat) (x : Int), k ≤ l.length ∧ i = .int .i64 k ∧ left = .int .i64 x ∧ (0 ≤ x ∧ x ≤ 1048576) ∧ Hid (szR x0 (l.length + swts l) = szR x (swts (l.drop k)))) (fun i _ => l.length - (intOf i).toNat)
      case atStart => exact ⟨0, _, by omega, rfl, rfl, by omega, Lib.hid (by simp only [List.drop_zero]; unfold szR; split <;> split <;> omega)⟩
      case round =>
        obtain ⟨k, x, hk, rfl, rfl, hx, HK⟩ := hrel
        obtain ⟨hx2, hx3⟩ := hx
        by_cases hltk : k < l.length
        · obtain ⟨e, he⟩ : ∃ e, l[k]? = some e := ⟨l[k]'(by omega), List.getElem?_eq_getElem (by omega)⟩
          have HW := Lib.hid (swts_drop he)
          have hme := hm e (List.mem_of_getElem? he)
          unfold maxLen at hme
          have p0 := hc k e 0 _ he rfl
          simp only [Nat.add_zero, Nat.mul_one] at p0
          clear hc
          by_cases hneg : x - (e.size : Int) < 0
          · go_wp2
            go_ret
            exact ⟨ret_int (by rw [HK.out, HW.out, szR_no (by omega)]), rfl⟩
          · go_wp2
            go_round
            case rel => exact ⟨k + 1, _, by omega, by go_num, rfl, by omega, Lib.hid (by rw [HK.out, HW.out]; unfold szR; split <;> split <;> omega)⟩
            case measure => simp [intOf]; omega
        · have HX : Hid (szR x (swts (l.drop k)) = x) := Lib.hid (by rw [List.drop_of_length_le (by omega)]; exact (szR_yes (by show ((0 : Nat) : Int) ≤ x; omega)).trans (by show x - ((0 : Nat) : Int) = x; omega))
          clear hc
          go_wp2
          go_ret
          exact ⟨ret_int (by rw [HK.out, HX.out]), rfl⟩
  · go_enter Tryz.func39, Tryz.ntmps39
    go_wp2
    go_ret
    exact ⟨ret_int (by rw [szR_no (by omega)]), rfl⟩
set_option maxHeartbeats 2000000 in
theorem toStringS (l : List ByteArray) (v : Value) (w : World) (hr : RawL scell 1 w v l) (hn : l.length ≤ 1048576) :
    Calls Tryz.prog 47 #[v] w fun e w' => RetL scell 1 9 w l e w' := by
  obtain ⟨i0, hi, hz0, hz1, hz2⟩ := info_parts scell_info
  obtain ⟨A, c, rfl, hmax, hr⟩ := hr
  rcases hr with rfl | ⟨b, o, rfl, hlt, hc⟩
  · go_enter Tryz.func47, Tryz.ntmps47
    go_wp2_with (at_make; refine wpList_make_full _ rfl _ _ _ rfl w.heap.size 9 i0 (.string .empty) 1 Tryz.underlying24 hi hz0 hz1 .i64 .i64 _ _ 0 rfl rfl rfl rfl (by omega) (by unfold maxLen; omega) (Nat.le_refl _) ?_; intro w1 hown hgrow)
    refine wp_loop_once ?_
    go_wp2
    go_ret
    refine ⟨_, rfl, ?_, (Below.refl _ _).grown hgrow (Nat.le_refl _) (by simp)⟩
    rw [made_flat (f := scell) scell_len (by omega) ByteArray.empty (Value.cells (.string .empty)) rfl] at hown
    exact hown
  · go_enter Tryz.func47, Tryz.ntmps47
    go_wp2_with (at_make; refine wpList_make_full _ rfl _ _ _ rfl w.heap.size 9 i0 (.string .empty) 1 Tryz.underlying24 hi hz0 hz1 .i64 .i64 _ _ l.length rfl rfl rfl rfl (by rw [hz2]; omega) (by unfold maxLen; omega) (Nat.le_refl _) ?_; intro w1 hown hgrow)
    have hb0 : Below w.heap.size w w1 := (Below.refl _ _).grown hgrow (Nat.le_refl _) (by simp)
    rw [made_flat (f := scell) scell_len (by omega) ByteArray.empty (Value.cells (.string .empty)) rfl] at hown
    clear hgrow
    go_loopw [4] (fun i wr => ∃ k : Nat, k ≤ l.length ∧ i = .int .i64 k ∧ Below w.heap.size w wr ∧ wr.ownsRow w.heap.size 9 1 (.slice (some ⟨w.heap.size, 0, none⟩) l.length l.length) l.length (flat scell (l.take k ++ List.replicate (l.length - k) ByteArray.empty))) (fun i _ => l.length - (intOf i).toNat)
    case atStart => exact ⟨0, by omega, rfl, hb0, by simpa using hown⟩
    case round =>
      obtain ⟨k, hk, rfl, hb, how⟩ := hrel
      clear hown hb0
      by_cases hltk : k < l.length
      · obtain ⟨e, he⟩ : ∃ e, l[k]? = some e := ⟨l[k]'(by omega), List.getElem?_eq_getElem (by omega)⟩
        have hz : w.heap.size ≤ wr.heap.size := hb.size
        have hg : w.heap.size < wr.heap.size := (how.lt _ rfl).2
        have p0 := (hb.cell (p := ⟨b, _, none⟩) hlt).trans (hc k e 0 _ he rfl)
        simp only [Nat.add_zero, Nat.mul_one] at p0
        clear hc
        have HO := Lib.hid how
        have q0 : wr.cell? ⟨w.heap.size, k, none⟩ = some (.string .empty) := by have := (how.cellAt (k * 1 + 0) (by omega)).trans (flat_get scell_len (fill_get l k ByteArray.empty hltk) (j := 0) (by omega)); simpa [scell] using this
        have z0 := fun j => how.frozenAt j
        clear how
        go_wp2
        go_roundw
        case rel => exact ⟨k + 1, by omega, by go_num, (by repeat (first | exact Below.refl _ _ | refine Below.alloc ?_ (by first | omega | (simp; done) | (simp; omega)) _ | apply Below.drew | apply below_drewN | refine Below.setCell ?_ (by first | omega | (simp; done) | (simp; omega)) _ | refine Below.trans ?_ (Below.mono (by assumption) (by first | omega | (simp; done) | (simp; omega))))), by rw [← fill_set l k ByteArray.empty e he, ← flat_put scell_len _ k e (by rw [fill_len l k ByteArray.empty hk]; exact hltk), Nat.mul_one]; exact own_put1 HO.out _ (by rw [flat_len scell_len, fill_len l k ByteArray.empty hk]; omega)⟩
        case measure => simp [intOf]; omega
      · go_wp2
        go_ret
        refine ⟨_, rfl, ?_, hb⟩
        obtain rfl : k = l.length := by omega
        simpa [OwnL] using how
set_option maxHeartbeats 2000000 in
theorem eqStringS (l : List ByteArray) (va vb : Value) (Ba Bb : Nat) (w : World) (ha : StringL Ba w va l) (hb0 : StringL Bb w vb l) (hn : l.length ≤ 8388608) :
    Calls Tryz.prog 55 #[va, vb] w fun e w' => e = .returned (.bool true) ∧ Qt w w' := by
  obtain ⟨A, c, rfl, hA⟩ := ha.shape
  obtain ⟨A', c', rfl, hA'⟩ := hb0.shape
  by_cases hl0 : l = []
  · subst hl0
    go_enter Tryz.func55, Tryz.ntmps55
    go_wp2
    refine wp_loop_once ?_
    go_wp2
    go_ret
    exact ⟨rfl, Qt.refl _⟩
  · obtain ⟨ga, rfl, _, hga⟩ := hA.resolve_left hl0
    obtain ⟨gb, rfl, _, hgb⟩ := hA'.resolve_left hl0
    clear hA hA'
    go_enter Tryz.func55, Tryz.ntmps55
    go_wp2
    go_loopw [5] (fun i wr => ∃ k : Nat, k ≤ l.length ∧ i = .int .i64 k ∧ Qt w wr) (fun i _ => l.length - (intOf i).toNat)
    case atStart => exact ⟨0, by omega, rfl, Qt.refl _⟩
    case round =>
      obtain ⟨k, hk, rfl, hq⟩ := hrel
      by_cases hltk : k < l.length
      · obtain ⟨e, he⟩ : ∃ e, l[k]? = some e := ⟨l[k]'(by omega), List.getElem?_eq_getElem (by omega)⟩
        have r0 : wr.cell? ⟨ga, k, none⟩ = some (.string e) := (hq.cell _).trans (StringL.at_ ha rfl he)
        have s0 : wr.cell? ⟨gb, k, none⟩ = some (.string e) := (hq.cell _).trans (StringL.at_ hb0 rfl he)
        have j0 : (0 : Int) ≤ (k : Int) := by omega
        have j1 : (k : Int) < (l.length : Int) := by omega
        go_wp2
        go_quiet (fail)
        go_wp2
        go_roundw
        case rel => exact ⟨k + 1, by omega, by go_num, hq.drewN _⟩
        case measure => simp [intOf]; omega
      · go_wp2
        go_ret
        exact ⟨rfl, hq⟩
def scellM (k : Nat) : ByteArray := mt k
def scellMs (k n : Nat) : List ByteArray := (List.range n).map fun i => scellM (k + i)
theorem scellMs_len (k n : Nat) : (scellMs k n).length = n := by simp [scellMs]
theorem scellMs_succ (k n : Nat) : scellMs k (n + 1) = scellMs k n ++ [scellM (k + n)] := by simp [scellMs, List.range_succ]
theorem scell_mid_get (k0 k : Nat) (l : List ByteArray) : (scellMs k0 k ++ l.drop k)[k]? = l[k]? := by
  rw [List.getElem?_append_right (by rw [scellMs_len]; omega), scellMs_len, Nat.sub_self, List.getElem?_drop, Nat.add_zero]
theorem scell_mid_len (k0 k : Nat) (l : List ByteArray) (h : k ≤ l.length) : (scellMs k0 k ++ l.drop k).length = l.length := by simp [scellMs_len]; omega
theorem scell_mid_set (k0 k : Nat) (l : List ByteArray) (h : k < l.length) : (scellMs k0 k ++ l.drop k).set k (scellM (k0 + k)) = scellMs k0 (k + 1) ++ l.drop (k + 1) := by
  rw [List.set_append_right _ _ (by rw [scellMs_len]; omega), scellMs_len, Nat.sub_self, List.drop_eq_getElem_cons h, List.set_cons_zero, scellMs_succ, List.append_assoc]; rfl
def MarkedString (B : Nat) (w : World) (v : Value) (k0 n : Nat) (e : Ending) (w' : World) : Prop :=
  e = .returned (.int .i64 ((k0 + n : Nat) : Int)) ∧ StringL B w' v (scellMs k0 n) ∧ w.grownBy w' v.ownBlock
set_option maxHeartbeats 2000000 in
theorem markStringS (l : List ByteArray) (v : Value) (k0 : Nat) (B : Nat) (w : World) (h : StringL B w v l) (hn : l.length ≤ 8388608) (h0 : 1 ≤ k0) (hk0 : k0 ≤ 67108864) :
    Calls Tryz.prog 65 #[v, .int .i64 k0] w fun e w' => MarkedString B w v k0 l.length e w' := by
  obtain ⟨A, c, rfl, hA⟩ := h.shape
  by_cases hl0 : l = []
  · subst hl0
    have HR : Hid (MarkedString B w (.slice A 0 c) k0 0 (.returned (.int .i64 k0)) w) := Lib.hid ⟨by simp, h, World.grownBy.refl w _⟩
    go_enter Tryz.func65, Tryz.ntmps65
    go_wp2
    refine wp_loop_once ?_
    go_wp2
    go_ret
    exact HR.out
  · obtain ⟨g, rfl, _, hg0⟩ := hA.resolve_left hl0
    clear hA
    go_enter Tryz.func65, Tryz.ntmps65
    go_wp2
    go_loopw [5, 1] (fun i m wr => ∃ k : Nat, k ≤ l.length ∧ i = .int .i64 k ∧ m = .int .i64 ((k0 + k : Nat) : Int) ∧ w.grownBy wr (some g) ∧ wr.ownsRow B 9 1 (.slice (some ⟨g, 0, none⟩) l.length c) l.length (flat scell (scellMs k0 k ++ l.drop k))) (fun i _ _ => l.length - (intOf i).toNat)
    case atStart => exact ⟨0, by omega, rfl, by simp, World.grownBy.refl w _, by unfold StringL OwnL at h; simpa [scellMs] using h⟩
    case round =>
      obtain ⟨k, hk, rfl, rfl, hg, how⟩ := hrel
      by_cases hltk : k < l.length
      · obtain ⟨e, he⟩ : ∃ e, l[k]? = some e := ⟨l[k]'(by omega), List.getElem?_eq_getElem (by omega)⟩
        have HG := Lib.hid ((scell_mid_get k0 k l).trans he)
        have HO := Lib.hid how
        have HW := Lib.hid hg
        clear how hg h
        go_wp2_with (go_at_call 108; refine (mark_any (k0 + k) _ (by omega) (by omega)).mono ?_; rintro e' w1 ⟨rfl, hb1⟩; go_must (have HO1 := Lib.hid (HO.out.kept (grown_of_below hb1 none) (by simp [Value.ownBlock])); have HG1 := Lib.hid (gtrans HW.out (grown_of_below hb1 _)); have q0 : w1.cell? ⟨g, k, none⟩ = some (.string e) := (by have := (HO1.out.cellAt (k * 1 + 0) (by omega)).trans (flat_get scell_len HG.out (j := 0) (by omega)); simpa [scell] using this); have z0 := fun j => HO1.out.frozenAt j))
        go_roundw
        case rel => exact ⟨k + 1, by omega, by go_num, by first | (congr 1; done) | (congr 1; omega), gset HG1.out _ _, by rw [← scell_mid_set k0 k l hltk, ← flat_put scell_len _ k _ (by rw [scell_mid_len k0 k l hk]; exact hltk), Nat.mul_one]; exact own_put1 HO1.out (.string (mt (k0 + k))) (by rw [flat_len scell_len, scell_mid_len k0 k l hk]; omega)⟩
        case measure => simp [intOf]; omega
      · obtain rfl : k = l.length := by omega
        go_wp2
        go_ret
        exact ⟨rfl, by simpa [OwnL, scellMs_len] using how, hg⟩
/- []string in memory -/
def RStringS : Rep (List ByteArray) := RepL scell 1 9 (fun e => e.size) (fun e => e.size ≤ maxLen) scellMs
theorem r_markStringS (l : List ByteArray) (v : Value) (k0 B E : Nat) (w : World) (h : RStringS.own B E w v l) (hn : RStringS.cnt l ≤ 8388608) (h0 : 1 ≤ k0) (hk : k0 ≤ 67108864) :
    Calls Tryz.prog 65 #[v, .int .i64 k0] w fun e w' => RStringS.marked B E w v k0 l e w' :=
  (markStringS l v k0 B w h.1 (by have : l.length * 1 ≤ 8388608 := hn; omega) h0 hk).mono fun _ _ ⟨h1, h2, h3⟩ => ⟨by rw [h1]; show _ = Ending.returned (.int .i64 ((k0 + l.length * 1 : Nat) : Int)); rw [Nat.mul_one], ⟨h2, h.2⟩, Chg.of_grown h3 fun g hg => ⟨(h.1.lt g hg).1, h.2 g hg⟩⟩
theorem r_toStringS (l : List ByteArray) (v : Value) (w : World) (h : RStringS.raw w v l) (hn : l.length ≤ 1048576) :
    Calls Tryz.prog 47 #[v] w fun e w' => RStringS.ret w l e w' := (toStringS l v w h.1 hn).mono fun _ _ h => h.rep
end Go.Proofs.YtfcdienphillnaaGreat
