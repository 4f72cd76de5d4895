/- The helpers of the laws over slices of string: sizes, copies, comparison, marks. Printed by gen_flat.py. -/
import Derived.Test.YtklalbbacbaoiaaOwn
import Derived.Test.YtklalbbacbaoiaaMark
namespace Go.Proofs.Ytklalbbacbaoiaa
set_option linter.unusedVariables false
open Go.RowKit

def scell (e : ByteArray) : List Value := [.string e]
theorem scell_len (e : ByteArray) : (scell e).length = 1 := rfl
abbrev StringL (B : Nat) (w : World) (v : Value) (l : List ByteArray) : Prop := OwnL scell 1 9 B w v l
theorem scell_info : (Try.prog.info? 9).map (fun i => (i.zero, i.size, i.bytes)) = some (some (.string .empty), 1, 16) := by kernel_rfl
theorem StringL.at_ {B g c k n : Nat} {w : World} {l : List ByteArray} {e : ByteArray} (h : StringL B w (.slice (some ⟨g, 0, none⟩) n c) l) (hn : l.length = n) (he : l[k]? = some e) : w.cell? ⟨g, k, none⟩ = some (.string e) := by
  subst hn
  have := OwnL.cell scell_len h he (j := 0) rfl
  simpa using this
set_option maxHeartbeats 2000000 in
theorem eqStringS (l : List ByteArray) (va vb : Value) (Ba Bb : Nat) (w : World) (ha : StringL Ba w va l) (hb0 : StringL Bb w vb l) (hn : l.length ≤ 8388608) :
    Calls Try.prog 40 #[va, vb] w fun e w' => e = .returned (.bool true) ∧ Qt w w' := by
  obtain ⟨A, c, rfl, hA⟩ := ha.shape
  obtain ⟨A', c', rfl, hA'⟩ := hb0.shape
  by_cases hl0 : l = []
  · subst hl0
    go_enter Try.func40, Try.ntmps40
    go_wp2
    refine wp_loop_once ?_
    go_wp2
    go_ret
    exact ⟨rfl, Qt.refl _⟩
  · obtain ⟨ga, rfl, _, hga⟩ := hA.resolve_left hl0
    obtain ⟨gb, rfl, _, hgb⟩ := hA'.resolve_left hl0
    clear hA hA'
    go_enter Try.func40, Try.ntmps40
    go_wp2
    go_loopw [5] (fun i wr => ∃ k : Nat, k ≤ l.length ∧ i = .int .i64 k ∧ Qt w wr) (fun i _ => l.length - (intOf i).toNat)
    case atStart => exact ⟨0, by omega, rfl, Qt.refl _⟩
    case round =>
      obtain ⟨k, hk, rfl, hq⟩ := hrel
      by_cases hltk : k < l.length
      · obtain ⟨e, he⟩ : ∃ e, l[k]? = some e := ⟨l[k]'(by omega), List.getElem?_eq_getElem (by omega)⟩
        have r0 : wr.cell? ⟨ga, k, none⟩ = some (.string e) := (hq.cell _).trans (StringL.at_ ha rfl he)
        have s0 : wr.cell? ⟨gb, k, none⟩ = some (.string e) := (hq.cell _).trans (StringL.at_ hb0 rfl he)
        have j0 : (0 : Int) ≤ (k : Int) := by omega
        have j1 : (k : Int) < (l.length : Int) := by omega
        go_wp2
        go_quiet (fail)
        go_wp2
        go_roundw
        case rel => exact ⟨k + 1, by omega, by go_num, hq.drewN _⟩
        case measure => simp [intOf]; omega
      · go_wp2
        go_ret
        exact ⟨rfl, hq⟩
def scellM (k : Nat) : ByteArray := mt k
def scellMs (k n : Nat) : List ByteArray := (List.range n).map fun i => scellM (k + i)
theorem scellMs_len (k n : Nat) : (scellMs k n).length = n := by simp [scellMs]
theorem scellMs_get (k n i : Nat) (h : i < n) : (scellMs k n)[i]? = some (scellM (k + i)) := by simp [scellMs, h]
theorem scellMs_succ (k n : Nat) : scellMs k (n + 1) = scellMs k n ++ [scellM (k + n)] := by simp [scellMs, List.range_succ]
theorem scell_mid_get (k0 k : Nat) (l : List ByteArray) : (scellMs k0 k ++ l.drop k)[k]? = l[k]? := by
  rw [List.getElem?_append_right (by rw [scellMs_len]; omega), scellMs_len, Nat.sub_self, List.getElem?_drop, Nat.add_zero]
theorem scell_mid_len (k0 k : Nat) (l : List ByteArray) (h : k ≤ l.length) : (scellMs k0 k ++ l.drop k).length = l.length := by simp [scellMs_len]; omega
theorem scell_mid_set (k0 k : Nat) (l : List ByteArray) (h : k < l.length) : (scellMs k0 k ++ l.drop k).set k (scellM (k0 + k)) = scellMs k0 (k + 1) ++ l.drop (k + 1) := by
  rw [List.set_append_right _ _ (by rw [scellMs_len]; omega), scellMs_len, Nat.sub_self, List.drop_eq_getElem_cons h, List.set_cons_zero, scellMs_succ, List.append_assoc]; rfl
def MarkedString (B : Nat) (w : World) (v : Value) (k0 n : Nat) (e : Ending) (w' : World) : Prop :=
  e = .returned (.int .i64 ((k0 + n : Nat) : Int)) ∧ StringL B w' v (scellMs k0 n) ∧ w.grownBy w' v.ownBlock
set_option maxHeartbeats 2000000 in
theorem markStringS (l : List ByteArray) (v : Value) (k0 : Nat) (B : Nat) (w : World) (h : StringL B w v l) (hn : l.length ≤ 8388608) (h0 : 1 ≤ k0) (hk0 : k0 ≤ 67108864) :
    Calls Try.prog 41 #[v, .int .i64 k0] w fun e w' => MarkedString B w v k0 l.length e w' := by
  obtain ⟨A, c, rfl, hA⟩ := h.shape
  by_cases hl0 : l = []
  · subst hl0
    have HR : Hid (MarkedString B w (.slice A 0 c) k0 0 (.returned (.int .i64 k0)) w) := Lib.hid ⟨by simp, h, World.grownBy.refl w _⟩
    go_enter Try.func41, Try.ntmps41
    go_wp2
    refine wp_loop_once ?_
    go_wp2
    go_ret
    exact HR.out
  · obtain ⟨g, rfl, _, hg0⟩ := hA.resolve_left hl0
    clear hA
    go_enter Try.func41, Try.ntmps41
    go_wp2
    go_loopw [5, 1] (fun i m wr => ∃ k : Nat, k ≤ l.length ∧ i = .int .i64 k ∧ m = .int .i64 ((k0 + k : Nat) : Int) ∧ w.grownBy wr (some g) ∧ wr.ownsRow B 9 1 (.slice (some ⟨g, 0, none⟩) l.length c) l.length (flat scell (scellMs k0 k ++ l.drop k))) (fun i _ _ => l.length - (intOf i).toNat)
    case atStart => exact ⟨0, by omega, rfl, by simp, World.grownBy.refl w _, by unfold StringL OwnL at h; simpa [scellMs] using h⟩
    case round =>
      obtain ⟨k, hk, rfl, rfl, hg, how⟩ := hrel
      by_cases hltk : k < l.length
      · obtain ⟨e, he⟩ : ∃ e, l[k]? = some e := ⟨l[k]'(by omega), List.getElem?_eq_getElem (by omega)⟩
        have HG := Lib.hid ((scell_mid_get k0 k l).trans he)
        have HO := Lib.hid how
        have HW := Lib.hid hg
        clear how hg h
        go_wp2_with (go_at_call 81; refine (mark_any (k0 + k) _ (by omega) (by omega)).mono ?_; rintro e' w1 ⟨rfl, hb1⟩; go_must (have HO1 := Lib.hid (HO.out.kept (grown_of_below hb1 none) (by simp [Value.ownBlock])); have HG1 := Lib.hid (gtrans HW.out (grown_of_below hb1 _)); have q0 : w1.cell? ⟨g, k, none⟩ = some (.string e) := (by have := (HO1.out.cellAt (k * 1 + 0) (by omega)).trans (flat_get scell_len HG.out (j := 0) (by omega)); simpa [scell] using this); have z0 := fun j => HO1.out.frozenAt j))
        go_roundw
        case rel => exact ⟨k + 1, by omega, by go_num, by first | (congr 1; done) | (congr 1; omega), gset HG1.out _ _, by rw [← scell_mid_set k0 k l hltk, ← flat_put scell_len _ k _ (by rw [scell_mid_len k0 k l hk]; exact hltk), Nat.mul_one]; exact own_put1 HO1.out (.string (mt (k0 + k))) (by rw [flat_len scell_len, scell_mid_len k0 k l hk]; omega)⟩
        case measure => simp [intOf]; omega
      · obtain rfl : k = l.length := by omega
        go_wp2
        go_ret
        exact ⟨rfl, by simpa [OwnL, scellMs_len] using how, hg⟩
set_option maxHeartbeats 2000000 in
theorem heldStringS (n : Nat) (v : Value) (k0 : Nat) (B : Nat) (w : World) (h : StringL B w v (scellMs k0 n)) (hn : n ≤ 8388608) (h0 : 1 ≤ k0) (hk0 : k0 ≤ 67108864) :
    Calls Try.prog 42 #[v, .int .i64 k0] w fun e w' => e = .returned (.int .i64 ((k0 + n : Nat) : Int)) ∧ Below w.heap.size w w' := by
  obtain ⟨A, c, rfl, hA⟩ := h.shape
  have hl : (scellMs k0 n).length = n := scellMs_len k0 n
  by_cases hl0 : n = 0
  · subst hl0
    go_enter Try.func42, Try.ntmps42
    go_wp2
    refine wp_loop_once ?_
    go_wp2
    go_ret
    exact ⟨rfl, Below.refl _ _⟩
  · obtain ⟨g, rfl, _, hg0⟩ := hA.resolve_left (by intro e; rw [e] at hl; simp at hl; omega)
    have hcl : ∀ k, k < n → w.cell? ⟨g, k, none⟩ = some (.string (mt (k0 + k))) := fun k hk => StringL.at_ h rfl (scellMs_get k0 n k hk)
    have HC := Lib.hid hcl
    clear hA hcl
    rw [hl]
    clear hl
    go_enter Try.func42, Try.ntmps42
    go_wp2
    go_loopw [5, 1] (fun i m wr => ∃ k : Nat, k ≤ n ∧ i = .int .i64 k ∧ m = .int .i64 ((k0 + k : Nat) : Int) ∧ Below w.heap.size w wr) (fun i _ _ => n - (intOf i).toNat)
    case atStart => exact ⟨0, by omega, rfl, by simp, Below.refl _ _⟩
    case round =>
      obtain ⟨k, hk, rfl, rfl, hb⟩ := hrel
      by_cases hltk : k < n
      · have c0 := HC.out k hltk
        have r0 : ∀ x : Wb wr, x.1.cell? ⟨g, k, none⟩ = some (.string (mt (k0 + k))) := fun x => Wb.cell ((hb.cell (p := ⟨g, _, none⟩) hg0).trans c0) x
        have hz : w.heap.size ≤ wr.heap.size := hb.size
        go_wp2
        refine wp_region_wb (by kernel_rfl) (by kernel_rfl) ?_
        repeat (go_big_quiet_step ((go_at_call 81; exact Wb.calls (mark_any (k0 + k) _ (by omega) (by omega)))))
        refine wpQuiet_nil ?_; intro w1 hw'; obtain ⟨⟨w2, hb1⟩, hw''⟩ := hw'; subst hw''
        clear r0
        go_wp2
        go_roundw
        case rel => exact ⟨k + 1, by omega, by go_num, by first | (congr 1; done) | (congr 1; omega), (by repeat (first | exact Below.refl _ _ | refine Below.alloc ?_ (by first | omega | (simp; done) | (simp; omega)) _ | apply Below.drew | apply below_drewN | refine Below.setCell ?_ (by first | omega | (simp; done) | (simp; omega)) _ | refine Below.trans ?_ (Below.mono (by assumption) (by first | omega | (simp; done) | (simp; omega)))))⟩
        case measure => simp [intOf]; omega
      · obtain rfl : k = n := by omega
        go_wp2
        go_ret
        exact ⟨rfl, hb⟩
/- []string in memory -/
def RStringS : Rep (List ByteArray) := RepL scell 1 9 (fun e => e.size) (fun e => e.size ≤ maxLen) scellMs
theorem r_retStringS {F : FuncId} {args : Array Value} {w : World} {l : List ByteArray} (h : Calls Try.prog F args w fun e w' => RetL scell 1 9 w l e w') : Calls Try.prog F args w fun e w' => RStringS.ret w l e w' := h.mono fun _ _ h => h.rep
theorem r_markStringS (l : List ByteArray) (v : Value) (k0 B E : Nat) (w : World) (h : RStringS.own B E w v l) (hn : RStringS.cnt l ≤ 8388608) (h0 : 1 ≤ k0) (hk : k0 ≤ 67108864) :
    Calls Try.prog 41 #[v, .int .i64 k0] w fun e w' => RStringS.marked B E w v k0 l e w' :=
  (markStringS l v k0 B w h.1 (by have : l.length * 1 ≤ 8388608 := hn; omega) h0 hk).mono fun _ _ ⟨h1, h2, h3⟩ => ⟨by rw [h1]; show _ = Ending.returned (.int .i64 ((k0 + l.length * 1 : Nat) : Int)); rw [Nat.mul_one], ⟨h2, h.2⟩, Chg.of_grown h3 fun g hg => ⟨(h.1.lt g hg).1, h.2 g hg⟩⟩
theorem r_heldStringS (l : List ByteArray) (v : Value) (k0 B E : Nat) (w : World) (h : RStringS.own B E w v (RStringS.mark k0 l)) (hn : RStringS.cnt l ≤ 8388608) (h0 : 1 ≤ k0) (hk : k0 ≤ 67108864) :
    Calls Try.prog 42 #[v, .int .i64 k0] w fun e w' => e = .returned (.int .i64 ((k0 + RStringS.cnt l : Nat) : Int)) ∧ Below w.heap.size w w' :=
  (heldStringS l.length v k0 B w h.1 (by have : l.length * 1 ≤ 8388608 := hn; omega) h0 hk).mono fun _ _ ⟨h1, h2⟩ => ⟨by rw [h1]; show _ = Ending.returned (.int .i64 ((k0 + l.length * 1 : Nat) : Int)); rw [Nat.mul_one], h2⟩
theorem r_eqStringS (l : List ByteArray) (va vb : Value) (B E B' E' : Nat) (w : World) (ha : RStringS.own B E w va l) (hb : RStringS.own B' E' w vb l) (hn : RStringS.cnt l ≤ 8388608) :
    Calls Try.prog 40 #[va, vb] w fun e w' => e = .returned (.bool true) ∧ Below w.heap.size w w' :=
  (eqStringS l va vb B B' w ha.1 hb.1 (by have : l.length * 1 ≤ 8388608 := hn; omega)).mono fun _ _ ⟨h1, h2⟩ => ⟨h1, h2.below _⟩
end Go.Proofs.Ytklalbbacbaoiaa
