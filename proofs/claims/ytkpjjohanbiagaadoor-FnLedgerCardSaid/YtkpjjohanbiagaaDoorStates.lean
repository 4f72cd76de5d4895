/- FindStates, impl and spec: the walks. -/
import Derived.Test.YtkpjjohanbiagaaDoorFits
import Derived.Test.YtkpjjohanbiagaaDoorHInt64
namespace Go.Proofs.YtkpjjohanbiagaaDoor
set_option linter.unusedVariables false
set_option linter.unusedSimpArgs false
open Go.RowKit

def statesFrom (c : Int) : Nat → List Ent → List Int
  | _, [] => []
  | k, e :: r => if e.after == c then (k : Int) :: statesFrom c (k + 1) r else statesFrom c (k + 1) r
def states (l : List Ent) (s : ByteArray) : List Int := if ledgerOk l then statesFrom (crcB s : Int) 0 l else []
theorem states_len (c : Int) (k : Nat) (l : List Ent) : (statesFrom c k l).length ≤ l.length := by
  induction l generalizing k with
  | nil => exact Nat.le_refl _
  | cons e r ih =>
    have := ih (k + 1)
    unfold statesFrom
    split <;> simp <;> omega
theorem states_yes {l : List Ent} {k : Nat} {e : Ent} {c : Int} {acc : List Int} (he : l[k]? = some e) (H : Hid (statesFrom c 0 l = acc ++ statesFrom c k (l.drop k))) (hc : (e.after == c) = true) : Hid (statesFrom c 0 l = (acc ++ [(k : Int)]) ++ statesFrom c (k + 1) (l.drop (k + 1))) :=
  Lib.hid (by rw [H.out, drop_cons he, statesFrom, if_pos hc]; simp)
theorem states_no {l : List Ent} {k : Nat} {e : Ent} {c : Int} {acc : List Int} (he : l[k]? = some e) (H : Hid (statesFrom c 0 l = acc ++ statesFrom c k (l.drop k))) (hc : (e.after == c) = false) : Hid (statesFrom c 0 l = acc ++ statesFrom c (k + 1) (l.drop (k + 1))) :=
  Lib.hid (by rw [H.out, drop_cons he, statesFrom, if_neg (by rw [hc]; decide)])
theorem states_end {l : List Ent} {k : Nat} {c : Int} {acc : List Int} (hk : l.length ≤ k) (H : Hid (statesFrom c 0 l = acc ++ statesFrom c k (l.drop k))) : statesFrom c 0 l = acc := by
  rw [H.out, List.drop_of_length_le hk, statesFrom, List.append_nil]

set_option maxHeartbeats 2000000 in
theorem states_i (B : Nat) (v : Value) (l : List Ent) (s : ByteArray) (w : World) (hn : l.length ≤ 1048576) (h : EntL B w v l) (hv : ∀ e ∈ l, e.verb.size ≤ 1048576) (hs : s.size ≤ 1048576) :
    Calls Tryd.prog 22 #[v, .string s] w fun e w' => RetL icell 1 2 w (states l s) e w' := by
  obtain ⟨i0, hi, hz0, hz1, hz2⟩ := info_parts icell_info
  cases hok : ledgerOk l
  · have HF : Hid (states l s = []) := Lib.hid (by simp [states, hok])
    go_enter Tryd.func22, Tryd.ntmps22
    go_wp2_with (go_at_call 20; refine (valid_i B v l w hn h hv).mono ?_; rintro e w1 ⟨rfl, hb1⟩)
    go_ret
    exact ⟨_, rfl, by rw [HF.out]; exact OwnL.of_nil, (by repeat (first | exact Below.refl _ _ | refine Below.alloc ?_ (by first | omega | (simp; done) | (simp; omega)) _ | apply Below.drew | apply below_drewN | refine Below.setCell ?_ (by first | omega | (simp; done) | (simp; omega)) _ | refine Below.trans ?_ (Below.mono (by assumption) (by first | omega | (simp; done) | (simp; omega)))))⟩
  · have HF : Hid (states l s = statesFrom (crcB s : Int) 0 l) := Lib.hid (by simp [states, hok])
    obtain ⟨A, c, rfl, hA⟩ := h.shape
    by_cases hl0 : l = []
    · subst hl0
      go_enter Tryd.func22, Tryd.ntmps22
      go_wp2_with (go_at_call 20; refine (valid_i B _ [] w hn h hv).mono ?_; rintro e w1 ⟨rfl, hb1⟩)
      refine wp_loop_once ?_
      go_wp2
      go_ret
      exact ⟨_, rfl, by rw [HF.out]; exact OwnL.of_nil, (by repeat (first | exact Below.refl _ _ | refine Below.alloc ?_ (by first | omega | (simp; done) | (simp; omega)) _ | apply Below.drew | apply below_drewN | refine Below.setCell ?_ (by first | omega | (simp; done) | (simp; omega)) _ | refine Below.trans ?_ (Below.mono (by assumption) (by first | omega | (simp; done) | (simp; omega)))))⟩
    · obtain ⟨g, rfl, _, hg⟩ := hA.resolve_left hl0
      clear hA
      go_enter Tryd.func22, Tryd.ntmps22
      go_wp2_with (go_at_call 20; refine (valid_i B _ l w hn h hv).mono ?_; rintro e w1 ⟨rfl, hb1⟩)
      have hz1' := hb1.size
      go_loopw [13, 5] (fun i out wr => ∃ (k : Nat) (acc : List Int), k ≤ l.length ∧ i = .int .i64 k ∧ acc.length ≤ k ∧ Below w.heap.size w wr ∧ Int64L w.heap.size wr out acc ∧ Hid (statesFrom (crcB s : Int) 0 l = acc ++ statesFrom (crcB s : Int) k (l.drop k))) (fun i _ _ => l.length - (intOf i).toNat)
      case atStart => exact ⟨0, [], by omega, rfl, by simp, (by repeat (first | exact Below.refl _ _ | refine Below.alloc ?_ (by first | omega | (simp; done) | (simp; omega)) _ | apply Below.drew | apply below_drewN | refine Below.setCell ?_ (by first | omega | (simp; done) | (simp; omega)) _ | refine Below.trans ?_ (Below.mono (by assumption) (by first | omega | (simp; done) | (simp; omega))))), OwnL.of_nil, Lib.hid rfl⟩
      case round =>
        obtain ⟨k, acc, hk, rfl, hacc, hb, how, HK⟩ := hrel
        by_cases hlt : k < l.length
        · obtain ⟨e, he⟩ : ∃ e, l[k]? = some e := ⟨l[k]'(by omega), List.getElem?_eq_getElem (by omega)⟩
          have hz : w.heap.size ≤ wr.heap.size := hb.size
          have p0 := (hb.cell (p := ⟨g, _, none⟩) hg).trans (OwnL.cell Ent.len h he (j := 0) rfl)
          have p1 := (hb.cell (p := ⟨g, _, none⟩) hg).trans (OwnL.cell Ent.len h he (j := 1) rfl)
          have p2 := (hb.cell (p := ⟨g, _, none⟩) hg).trans (OwnL.cell Ent.len h he (j := 2) rfl)
          have p3 := (hb.cell (p := ⟨g, _, none⟩) hg).trans (OwnL.cell Ent.len h he (j := 3) rfl)
          simp only [Nat.add_zero] at p0
          go_wp2_with (fail)
          have e2 : ∀ x : Wb (wr.alloc (.cells #[.string e.verb, .int .i64 e.before, .int .i64 e.after, .int .i64 e.chain] 48)), x.1.cell? ⟨wr.heap.size, 2, none⟩ = some (.int .i64 e.after) := fun x => Wb.cell (by simp) x
          cases hc : e.after == (crcB s : Int)
          · refine wp_region_wb (by kernel_rfl) (by kernel_rfl) ?_
            repeat (go_big_quiet_step ((go_at_call 47; exact Wb.same (check_i _ _ (by omega)))))
            refine wpQuiet_nil ?_; intro w1 hw'; obtain ⟨⟨w2, hb1⟩, hw''⟩ := hw'; subst hw''
            clear e2
            go_wp2
            go_roundw
            case rel => exact ⟨k + 1, acc, by omega, by go_num, by omega, (by repeat (first | exact Below.refl _ _ | refine Below.alloc ?_ (by first | omega | (simp; done) | (simp; omega)) _ | apply Below.drew | apply below_drewN | refine Below.setCell ?_ (by first | omega | (simp; done) | (simp; omega)) _ | refine Below.trans ?_ (Below.mono (by assumption) (by first | omega | (simp; done) | (simp; omega))))), (how.alloc _).kept (grown_of_below hb1 none) (by cases u5.ownBlock <;> simp), states_no he HK hc⟩
            case measure => simp [intOf]; omega
          · refine wp_region_wb (by kernel_rfl) (by kernel_rfl) ?_
            repeat (go_big_quiet_step ((go_at_call 47; exact Wb.same (check_i _ _ (by omega)))))
            refine wpQuiet_nil ?_; intro w1 hw'; obtain ⟨⟨w2, hb1⟩, hw''⟩ := hw'; subst hw''
            clear e2
            have HO := Lib.hid ((how.alloc (.cells #[.string e.verb, .int .i64 e.before, .int .i64 e.after, .int .i64 e.chain] 48)).kept (grown_of_below hb1 none) (by cases u5.ownBlock <;> simp))
            clear how
            have hzw : w.heap.size ≤ w1.heap.size := by have := hb1.size; (try simp at this); omega
            go_wp2_with (at_builtin; refine wpList_app1 icell 1 icell_len _ rfl _ _ _ rfl w.heap.size 2 i0 (.int .i64 0) 8 Tryd.underlying44 hi hz0 hz1 hz2 rfl (by decide) _ acc rfl (HO.out.alloc _) w1.heap.size 1 (k : Int) rfl ?_ (by simp [icell, Value.oneCell']) (by omega) (by omega) (by simp; omega) ?_; (· intro j u hu; cases j with | zero => (simp [icell] at hu; subst hu; simp) | succ j => simp [icell] at hu); intro v' w2 how2 hg2)
            go_roundw
            case rel => exact ⟨k + 1, acc ++ [(k : Int)], by omega, by go_num, by simp; omega, own_grown_below (HO.out.alloc _) (by repeat (first | exact Below.refl _ _ | refine Below.alloc ?_ (by first | omega | (simp; done) | (simp; omega)) _ | apply Below.drew | apply below_drewN | refine Below.setCell ?_ (by first | omega | (simp; done) | (simp; omega)) _ | refine Below.trans ?_ (Below.mono (by assumption) (by first | omega | (simp; done) | (simp; omega))))) hg2 (Nat.le_refl _) (by first | omega | (simp; done) | (simp; omega)), how2, states_yes he HK hc⟩
            case measure => simp [intOf]; omega
        · go_wp2
          go_ret
          exact ⟨_, rfl, by rw [HF.out, states_end (by omega) HK]; exact how, (by repeat (first | exact Below.refl _ _ | refine Below.alloc ?_ (by first | omega | (simp; done) | (simp; omega)) _ | apply Below.drew | apply below_drewN | refine Below.setCell ?_ (by first | omega | (simp; done) | (simp; omega)) _ | refine Below.trans ?_ (Below.mono (by assumption) (by first | omega | (simp; done) | (simp; omega)))))⟩
end Go.Proofs.YtkpjjohanbiagaaDoor
