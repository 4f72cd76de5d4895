/- The data of the sectors with a state, impl and spec: the walks. -/
import Derived.Test.YtignjjkldmninaaHDisc
import Derived.Test.YtignjjkldmninaaHString
namespace Go.Proofs.Ytignjjkldmninaa
set_option linter.unusedVariables false
open Go.RowKit
def stF (st : Int) : List Sec → List ByteArray
  | [] => []
  | s :: r => if (s.state == st) = true then s.data :: stF st r else stF st r
theorem stF_len (st : Int) (l : List Sec) : (stF st l).length ≤ l.length := by
  induction l with
  | nil => exact Nat.le_refl _
  | cons e r ih => unfold stF; split <;> simp <;> omega
theorem stF_mem {st : Int} {l : List Sec} {n : Nat} (h : ∀ s ∈ l, s.data.size ≤ n) : ∀ b ∈ stF st l, b.size ≤ n := by
  induction l with
  | nil => intro b hb; simp [stF] at hb
  | cons e r ih =>
    have := ih (fun s hs => h s (List.mem_cons_of_mem _ hs))
    unfold stF; split
    · intro b hb
      cases List.mem_cons.1 hb with
      | inl h' => subst h'; exact h e List.mem_cons_self
      | inr h' => exact this b h'
    · exact this
theorem st_yes {st : Int} {l : List Sec} {k : Nat} {e : Sec} {acc X : List ByteArray} (he : l[k]? = some e) (H : Hid (X = acc ++ stF st (l.drop k))) (hc : (e.state == st) = true) : Hid (X = (acc ++ [e.data]) ++ stF st (l.drop (k + 1))) := by
  obtain ⟨hk, rfl⟩ := List.getElem?_eq_some_iff.1 he
  exact Lib.hid (by rw [H.out, List.drop_eq_getElem_cons hk, stF, if_pos hc]; simp)
theorem st_no {st : Int} {l : List Sec} {k : Nat} {e : Sec} {acc X : List ByteArray} (he : l[k]? = some e) (H : Hid (X = acc ++ stF st (l.drop k))) (hc : (e.state == st) = false) : Hid (X = acc ++ stF st (l.drop (k + 1))) := by
  obtain ⟨hk, rfl⟩ := List.getElem?_eq_some_iff.1 he
  exact Lib.hid (by rw [H.out, List.drop_eq_getElem_cons hk, stF, if_neg (by rw [hc]; decide)])
theorem st_end {st : Int} {l : List Sec} {k : Nat} {acc X : List ByteArray} (hk : l.length ≤ k) (H : Hid (X = acc ++ stF st (l.drop k))) : X = acc := by
  rw [H.out, List.drop_of_length_le hk, stF, List.append_nil]
set_option maxHeartbeats 2000000 in
theorem good_i (B : Nat) (v : Value) (l : List Sec) (w : World) (hn : l.length ≤ 1048576) (h : SecOwn B w v l) :
    Calls Try.prog 75 #[v] w fun e w' => RetL scell 1 9 w (stF 1 l) e w' := by
  obtain ⟨i0, hi, hz0, hz1, hz2⟩ := info_parts scell_info
  obtain ⟨A, c, rfl, hA⟩ := OwnL.shape h
  by_cases hl0 : l = []
  · subst hl0
    go_enter Try.func75, Try.ntmps75
    go_wp2
    refine wp_loop_once ?_
    go_wp2
    go_ret
    exact ⟨_, rfl, OwnL.of_nil, Below.refl _ _⟩
  · obtain ⟨g, rfl, _, hg⟩ := hA.resolve_left hl0
    clear hA
    go_enter Try.func75, Try.ntmps75
    go_wp2
    go_loopw [8, 3] (fun i out wr => ∃ (k : Nat) (acc : List ByteArray), k ≤ l.length ∧ i = .int .i64 k ∧ acc.length ≤ k ∧ Below w.heap.size w wr ∧ StringL w.heap.size wr out acc ∧ Hid (stF 1 l = acc ++ stF 1 (l.drop k))) (fun i _ _ => l.length - (intOf i).toNat)
    case atStart => exact ⟨0, [], by omega, rfl, by simp, Below.refl _ _, OwnL.of_nil, Lib.hid rfl⟩
    case round =>
      obtain ⟨k, acc, hk, rfl, hacc, hb, how, HK⟩ := hrel
      by_cases hlt : k < l.length
      · obtain ⟨e, he⟩ : ∃ e, l[k]? = some e := ⟨l[k]'(by omega), List.getElem?_eq_getElem (by omega)⟩
        have hz : w.heap.size ≤ wr.heap.size := hb.size
        have p0 := (hb.cell (p := ⟨g, _, none⟩) hg).trans (OwnL.cell Sec.len h he (j := 0) rfl)
        have p1 := (hb.cell (p := ⟨g, _, none⟩) hg).trans (OwnL.cell Sec.len h he (j := 1) rfl)
        simp only [Nat.add_zero] at p0
        have HE := Lib.hid he
        clear he
        cases hc : e.state == 1
        · have HO := how.alloc (.cells #[.string e.data, .int .i64 e.state] 48)
          have HB := Below.alloc hb hz (.cells #[.string e.data, .int .i64 e.state] 48)
          go_wp2
          go_roundw
          case rel => exact ⟨k + 1, acc, by omega, by go_num, by omega, HB, HO, st_no HE.out HK hc⟩
          case measure => simp [intOf]; omega
        · have HO := Lib.hid (how.alloc (.cells #[.string e.data, .int .i64 e.state] 48))
          go_wp2_with (at_builtin; refine wpList_app1 scell 1 scell_len _ rfl _ _ _ rfl w.heap.size 9 i0 (.string .empty) 16 Try.underlying85 hi hz0 hz1 hz2 rfl (by decide) _ acc rfl (HO.out.alloc _) _ 1 e.data rfl ?_ (by simp [scell, Value.oneCell']) (by omega) (by omega) (by simp; omega) ?_; (· intro j u hu; cases j with | zero => (simp [scell] at hu; subst hu; simp) | succ j => simp [scell] at hu); intro v' w2 how2 hg2)
          go_roundw
          case rel => exact ⟨k + 1, acc ++ [e.data], by omega, by go_num, by simp; omega, own_grown_below (HO.out.alloc _) (by repeat (first | exact Below.refl _ _ | refine Below.alloc ?_ (by first | omega | (simp; done) | (simp; omega)) _ | apply Below.drew | apply below_drewN | refine Below.setCell ?_ (by first | omega | (simp; done) | (simp; omega)) _ | refine Below.trans ?_ (Below.mono (by assumption) (by first | omega | (simp; done) | (simp; omega))))) hg2 (Nat.le_refl _) (by first | omega | (simp; done) | (simp; omega)), how2, st_yes HE.out HK hc⟩
          case measure => simp [intOf]; omega
      · go_wp2
        go_ret
        exact ⟨_, rfl, by rw [st_end (by omega) HK]; exact how, hb⟩
set_option maxHeartbeats 2000000 in
theorem state_s (B : Nat) (v : Value) (l : List Sec) (st : Int) (w : World) (hn : l.length ≤ 1048576) (h : SecOwn B w v l) :
    Calls Try.prog 86 #[v, .int .i64 st] w fun e w' => RetL scell 1 9 w (stF st l) e w' := by
  obtain ⟨i0, hi, hz0, hz1, hz2⟩ := info_parts scell_info
  obtain ⟨A, c, rfl, hA⟩ := OwnL.shape h
  by_cases hl0 : l = []
  · subst hl0
    go_enter Try.func86, Try.ntmps86
    go_wp2
    refine wp_loop_once ?_
    go_wp2
    go_ret
    exact ⟨_, rfl, OwnL.of_empty w (Nat.le_refl _), (by repeat (first | exact Below.refl _ _ | refine Below.alloc ?_ (by first | omega | (simp; done) | (simp; omega)) _ | apply Below.drew | apply below_drewN | refine Below.setCell ?_ (by first | omega | (simp; done) | (simp; omega)) _ | refine Below.trans ?_ (Below.mono (by assumption) (by first | omega | (simp; done) | (simp; omega)))))⟩
  · obtain ⟨g, rfl, _, hg⟩ := hA.resolve_left hl0
    clear hA
    go_enter Try.func86, Try.ntmps86
    go_wp2
    go_loopw [6, 5] (fun i out wr => ∃ (k : Nat) (acc : List ByteArray), k ≤ l.length ∧ i = .int .i64 k ∧ acc.length ≤ k ∧ Below w.heap.size w wr ∧ StringL w.heap.size wr out acc ∧ Hid (stF st l = acc ++ stF st (l.drop k))) (fun i _ _ => l.length - (intOf i).toNat)
    case atStart => exact ⟨0, [], by omega, rfl, by simp, (by repeat (first | exact Below.refl _ _ | refine Below.alloc ?_ (by first | omega | (simp; done) | (simp; omega)) _ | apply Below.drew | apply below_drewN | refine Below.setCell ?_ (by first | omega | (simp; done) | (simp; omega)) _ | refine Below.trans ?_ (Below.mono (by assumption) (by first | omega | (simp; done) | (simp; omega))))), OwnL.of_empty w (Nat.le_refl _), Lib.hid rfl⟩
    case round =>
      obtain ⟨k, acc, hk, rfl, hacc, hb, how, HK⟩ := hrel
      by_cases hlt : k < l.length
      · obtain ⟨e, he⟩ : ∃ e, l[k]? = some e := ⟨l[k]'(by omega), List.getElem?_eq_getElem (by omega)⟩
        have hz : w.heap.size ≤ wr.heap.size := hb.size
        have p0 := (hb.cell (p := ⟨g, _, none⟩) hg).trans (OwnL.cell Sec.len h he (j := 0) rfl)
        have p1 := (hb.cell (p := ⟨g, _, none⟩) hg).trans (OwnL.cell Sec.len h he (j := 1) rfl)
        simp only [Nat.add_zero] at p0
        have HE := Lib.hid he
        clear he
        cases hc : e.state == st
        · go_wp2
          go_roundw
          case rel => exact ⟨k + 1, acc, by omega, by go_num, by omega, hb, how, st_no HE.out HK hc⟩
          case measure => simp [intOf]; omega
        · have HO := Lib.hid how
          go_wp2_with (at_builtin; refine wpList_app1 scell 1 scell_len _ rfl _ _ _ rfl w.heap.size 9 i0 (.string .empty) 16 Try.underlying85 hi hz0 hz1 hz2 rfl (by decide) _ acc rfl (HO.out.alloc _) _ 1 e.data rfl ?_ (by simp [scell, Value.oneCell']) (by omega) (by omega) (by simp; omega) ?_; (· intro j u hu; cases j with | zero => (simp [scell] at hu; subst hu; simp) | succ j => simp [scell] at hu); intro v' w2 how2 hg2)
          go_roundw
          case rel => exact ⟨k + 1, acc ++ [e.data], by omega, by go_num, by simp; omega, own_grown_below (HO.out.alloc _) (by repeat (first | exact Below.refl _ _ | refine Below.alloc ?_ (by first | omega | (simp; done) | (simp; omega)) _ | apply Below.drew | apply below_drewN | refine Below.setCell ?_ (by first | omega | (simp; done) | (simp; omega)) _ | refine Below.trans ?_ (Below.mono (by assumption) (by first | omega | (simp; done) | (simp; omega))))) hg2 (Nat.le_refl _) (by first | omega | (simp; done) | (simp; omega)), how2, st_yes HE.out HK hc⟩
          case measure => simp [intOf]; omega
      · go_wp2
        go_ret
        exact ⟨_, rfl, by rw [st_end (by omega) HK]; exact how, hb⟩
end Go.Proofs.Ytignjjkldmninaa
