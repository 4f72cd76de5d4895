/- isGroup23, l23Group: the walks. -/
import Derived.Test.YtkdadaocbfbndaaGroup
namespace Go.Proofs.Ytkdadaocbfbndaa
set_option linter.unusedVariables false
open Go.RowKit

theorem groupB_nil : groupB [] = false := rfl
theorem groupB_long {l : List ByteArray} (h : 128 < l.length) : groupB l = false := by
  cases l with
  | nil => rfl
  | cons s r => unfold groupB; rw [decide_eq_false (by omega)]; rfl
theorem groupB_at {l : List ByteArray} {s : ByteArray} (h : l[0]? = some s) (h2 : l.length ≤ 128) : groupB l = ((decide (1 ≤ s.size) && decide (s.size ≤ 64)) && sizesAre s.size l) := by
  cases l with
  | nil => cases h
  | cons s' r =>
    obtain rfl : s' = s := by simpa using h
    unfold groupB; rw [decide_eq_true h2]; simp only [Bool.true_and]
theorem groupB_size {l : List ByteArray} (h : groupB l = true) : ∃ s, l[0]? = some s ∧ 1 ≤ s.size ∧ s.size ≤ 64 ∧ 1 ≤ l.length ∧ l.length ≤ 128 ∧ ∀ t ∈ l, t.size = s.size := by
  cases l with
  | nil => cases h
  | cons s r =>
    unfold groupB at h
    simp only [Bool.and_eq_true, decide_eq_true_eq] at h
    refine ⟨s, rfl, h.1.2.1, h.1.2.2, by simp, h.1.1, ?_⟩
    have := h.2
    unfold sizesAre at this
    rw [List.all_eq_true] at this
    intro t ht
    exact of_decide_eq_true (this t ht)
set_option maxHeartbeats 1000000 in
theorem group_i (l : List ByteArray) (v : Value) (w : World) (h : StrL w v l) (hm : l.length ≤ maxLen) :
    Calls Try.prog 39 #[v] w fun e w' => e = .returned (.bool (groupB l)) ∧ Below w.heap.size w w' := by
  have hml : l.length ≤ 9223372036854775807 := by unfold maxLen at hm; omega
  obtain ⟨A, c, rfl, hA⟩ := h
  by_cases hb : 1 ≤ l.length ∧ l.length ≤ 128
  · have b0 : inB l.length 1 128 = true := inB_t (by omega)
    rcases hA with rfl | ⟨g, rfl, hg, hc⟩
    · simp at hb
    obtain ⟨s0, h0⟩ : ∃ s, l[0]? = some s := ⟨l[0]'(by omega), List.getElem?_eq_getElem (by omega)⟩
    have p0 : (w.alloc (.cells #[.slice (some ⟨g, 0, none⟩) l.length c] 25)).cell? ⟨g, 0, none⟩ = some (.string s0) := (World.cell?_alloc_old _ _ _ (Nat.ne_of_lt hg)).trans (hc 0 s0 h0)
    have HG := groupB_at h0 hb.2
    have HI := index_i w.heap.size g c l s0 (w.alloc (.cells #[.slice (some ⟨g, 0, none⟩) l.length c] 25)) hm (by simp) h0 (fun k s hk => (World.cell?_alloc_old _ _ _ (Nat.ne_of_lt hg)).trans (hc k s hk))
    have HA := idxN_all s0.size 0 l
    have H1 := Lib.hid HG
    have H2 := Lib.hid HA
    have hl0 : 0 < l.length := hb.1
    clear HG HA h0 hc
    cases hs : inB s0.size 1 64
    · go_enter Try.func39, Try.ntmps39
      go_wp2_with (first | (go_at_call 40; refine (within_i _ _ _ _).mono ?_; rintro e w1 ⟨rfl, rfl⟩) | go_in)
      go_ret
      have := inB_no hs
      refine ⟨ret_bool ?_, (by repeat (first | exact Below.refl _ _ | refine Below.alloc ?_ (by first | omega | (simp; done) | (simp; omega)) _ | apply Below.drew | apply below_drewN | refine Below.setCell ?_ (by first | omega | (simp; done) | (simp; omega)) _ | refine Below.trans ?_ (Below.mono (by assumption) (by first | omega | (simp; done) | (simp; omega)))))⟩
      rw [H1.out]
      have e : (decide (1 ≤ s0.size) && decide (s0.size ≤ 64)) = false := by simp; omega
      rw [e]; rfl
    · have hi : decide ((0 : Int) ≤ idxN s0.size 0 l) = !(sizesAre s0.size l) := H2.out
      cases hsz : sizesAre s0.size l
      · have hi2 : decide ((0 : Int) ≤ idxN s0.size 0 l) = true := by rw [hi, hsz]; rfl
        clear hi
        go_enter Try.func39, Try.ntmps39
        go_wp2_with (first | (go_at_call 40; refine (within_i _ _ _ _).mono ?_; rintro e w1 ⟨rfl, rfl⟩) | (go_at_call 74; refine HI.mono ?_; rintro e w1 ⟨rfl, rfl⟩) | go_in)
        go_ret
        refine ⟨ret_bool ?_, (by repeat (first | exact Below.refl _ _ | refine Below.alloc ?_ (by first | omega | (simp; done) | (simp; omega)) _ | apply Below.drew | apply below_drewN | refine Below.setCell ?_ (by first | omega | (simp; done) | (simp; omega)) _ | refine Below.trans ?_ (Below.mono (by assumption) (by first | omega | (simp; done) | (simp; omega)))))⟩
        rw [H1.out, hsz, Bool.and_false]
        try rfl
      · have hi2 : decide ((0 : Int) ≤ idxN s0.size 0 l) = false := by rw [hi, hsz]; rfl
        clear hi
        go_enter Try.func39, Try.ntmps39
        go_wp2_with (first | (go_at_call 40; refine (within_i _ _ _ _).mono ?_; rintro e w1 ⟨rfl, rfl⟩) | (go_at_call 74; refine HI.mono ?_; rintro e w1 ⟨rfl, rfl⟩) | go_in)
        go_ret
        have := inB_yes hs
        refine ⟨ret_bool ?_, (by repeat (first | exact Below.refl _ _ | refine Below.alloc ?_ (by first | omega | (simp; done) | (simp; omega)) _ | apply Below.drew | apply below_drewN | refine Below.setCell ?_ (by first | omega | (simp; done) | (simp; omega)) _ | refine Below.trans ?_ (Below.mono (by assumption) (by first | omega | (simp; done) | (simp; omega)))))⟩
        have e : (decide (1 ≤ s0.size) && decide (s0.size ≤ 64)) = true := by simp; omega
        rw [H1.out, hsz, e]
        try rfl
  · have b0 : inB l.length 1 128 = false := inB_f (by omega)
    have HF : Hid (groupB l = false) := Lib.hid (by
      by_cases h : 128 < l.length
      · exact groupB_long h
      · obtain rfl : l = [] := List.eq_nil_of_length_eq_zero (by omega)
        rfl)
    clear hA
    go_enter Try.func39, Try.ntmps39
    go_wp2_with (first | (go_at_call 40; refine (within_i _ _ _ _).mono ?_; rintro e w1 ⟨rfl, rfl⟩) | go_in)
    go_ret
    exact ⟨ret_bool HF.out.symm, (by repeat (first | exact Below.refl _ _ | refine Below.alloc ?_ (by first | omega | (simp; done) | (simp; omega)) _ | apply Below.drew | apply below_drewN | refine Below.setCell ?_ (by first | omega | (simp; done) | (simp; omega)) _ | refine Below.trans ?_ (Below.mono (by assumption) (by first | omega | (simp; done) | (simp; omega)))))⟩
end Go.Proofs.Ytkdadaocbfbndaa
