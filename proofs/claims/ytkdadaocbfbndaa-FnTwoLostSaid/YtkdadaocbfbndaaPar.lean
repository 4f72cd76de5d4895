/- zeros, parity, l23Make: the walks. -/
import Derived.Test.YtkdadaocbfbndaaGroup2
import Derived.Test.YtkdadaocbfbndaaScaled
import Derived.Test.YtkdadaocbfbndaaPlus
import Derived.Test.YtkdadaocbfbndaaZeros
namespace Go.Proofs.Ytkdadaocbfbndaa
set_option linter.unusedVariables false
open Go.RowKit

theorem emp_yes {s : ByteArray} (h : s.size = 0) : s.toList.isEmpty = true := by
  have e := data_len s
  rw [ByteArray.toList_eq]
  cases hl : s.data.toList with
  | nil => rfl
  | cons a l => rw [hl] at e; simp at e; omega
theorem emp_no {s : ByteArray} (h : ¬ s.size = 0) : s.toList.isEmpty = false := by
  have e := data_len s
  rw [ByteArray.toList_eq]
  cases hl : s.data.toList with
  | nil => rw [hl] at e; simp at e; omega
  | cons a l => rfl
/-- both sums over the strings l, of which the first one is number k -/
def parF (p q : List Nat) : Nat → List ByteArray → List Nat × List Nat
  | _, [] => (p, q)
  | k, s :: r => if s.size = 0 then parF p q (k + 1) r else parF (plusN p 1 (bts s)) (plusN q (gpow (m255 k)) (bts s)) (k + 1) r
theorem par_skip {p q : List Nat} {k : Nat} {l : List ByteArray} {s : ByteArray} {X : List Nat × List Nat} (hs : l[k]? = some s) (H : Hid (X = parF p q k (l.drop k))) (h : s.size = 0) : Hid (X = parF p q (k + 1) (l.drop (k + 1))) := by
  obtain ⟨hk, rfl⟩ := List.getElem?_eq_some_iff.1 hs
  exact Lib.hid (by rw [H.out, List.drop_eq_getElem_cons hk, parF, if_pos h])
theorem par_next {p q : List Nat} {k : Nat} {l : List ByteArray} {s : ByteArray} {X : List Nat × List Nat} (hs : l[k]? = some s) (H : Hid (X = parF p q k (l.drop k))) (h : ¬ s.size = 0) : Hid (X = parF (plusN p 1 (bts s)) (plusN q (gpow (m255 k)) (bts s)) (k + 1) (l.drop (k + 1))) := by
  obtain ⟨hk, rfl⟩ := List.getElem?_eq_some_iff.1 hs
  exact Lib.hid (by rw [H.out, List.drop_eq_getElem_cons hk, parF, if_neg h])
theorem par_end {p q : List Nat} {k : Nat} {l : List ByteArray} {X : List Nat × List Nat} (hk : l.length ≤ k) (H : Hid (X = parF p q k (l.drop k))) : X = (p, q) := by
  rw [H.out, List.drop_of_length_le hk, parF]
theorem parF_len {p q : List Nat} {n k : Nat} {l : List ByteArray} (hp : p.length = n) (hq : q.length = n) (hl : ∀ s ∈ l, s.size = 0 ∨ s.size = n) : (parF p q k l).1.length = n ∧ (parF p q k l).2.length = n := by
  induction l generalizing p q k with
  | nil => exact ⟨hp, hq⟩
  | cons s r ih =>
    have hr : ∀ t ∈ r, t.size = 0 ∨ t.size = n := fun t ht => hl t (List.mem_cons_of_mem _ ht)
    unfold parF
    split
    · exact ih hp hq hr
    · have := (hl s List.mem_cons_self).resolve_left (by assumption)
      have hb := bts_len s
      exact ih (by rw [plusN_len (by omega)]; exact hp) (by rw [plusN_len (by omega)]; exact hq) hr
theorem parF_lt {p q : List Nat} {k : Nat} {l : List ByteArray} (hp : ∀ x ∈ p, x < 256) (hq : ∀ x ∈ q, x < 256) : (∀ x ∈ (parF p q k l).1, x < 256) ∧ (∀ x ∈ (parF p q k l).2, x < 256) := by
  induction l generalizing p q k with
  | nil => exact ⟨hp, hq⟩
  | cons s r ih =>
    unfold parF
    split
    · exact ih hp hq
    · exact ih (plusN_lt hp bts_lt) (plusN_lt hq bts_lt)
theorem zeros_lt {n : Nat} : ∀ x ∈ List.replicate n 0, x < 256 := by
  intro x h; obtain ⟨_, rfl⟩ := List.mem_replicate.1 h; omega
theorem plus1 {p b : List Nat} : plusN p 1 b = xorN p b := by simp [plusN, xorN, gmul_one]
theorem plus_sc {p b : List Nat} {f : Nat} : plusN p f b = xorN p (scN f b) := by
  simp [plusN, xorN, scN, List.zipWith_map_right]
set_option maxHeartbeats 1000000 in
theorem parity_i (l : List ByteArray) (n : Nat) (v : Value) (w : World) (h : StrL w v l) (hm : l.length ≤ 1048576) (hl : ∀ s ∈ l, s.size = 0 ∨ s.size = n) (hn : n ≤ 1048576) :
    Calls Try.prog 45 #[v, .int .i64 n] w fun e w' => e = .returned (.tuple #[.string (strN (parF (List.replicate n 0) (List.replicate n 0) 0 l).1), .string (strN (parF (List.replicate n 0) (List.replicate n 0) 0 l).2)]) ∧ Below w.heap.size w w' := by
  obtain ⟨A, c, rfl, hA⟩ := h
  go_enter Try.func45, Try.ntmps45
  go_wp2_with (fail)
  refine (zeros_i n _ (by omega)).mono ?_; rintro e w1 ⟨rfl, hb1⟩
  go_wp2_with (fail)
  refine (zeros_i n _ (by omega)).mono ?_; rintro e w2 ⟨rfl, hb2⟩
  go_wp2
  have hz1 := hb1.size
  have hz2 := hb2.size
  have hB : Below w.heap.size w w2 := hb1.trans (hb2.mono hz1)
  go_loopw [16, 6, 7] (fun i x y wr => ∃ (k : Nat) (p q : List Nat), k ≤ l.length ∧ i = .int .i64 k ∧ x = .string (strN p) ∧ y = .string (strN q) ∧ p.length = n ∧ q.length = n ∧ (∀ x ∈ p, x < 256) ∧ (∀ x ∈ q, x < 256) ∧ Below w.heap.size w wr ∧ Hid (parF (List.replicate n 0) (List.replicate n 0) 0 l = parF p q k (l.drop k))) (fun i _ _ _ => l.length - (intOf i).toNat)
  case atStart => exact ⟨0, _, _, by omega, rfl, rfl, rfl, by simp, by simp, zeros_lt, zeros_lt, hB, Lib.hid rfl⟩
  case round =>
    obtain ⟨k, p, q, hk, rfl, rfl, rfl, hp, hq, bp, bq, hb, HK⟩ := hrel
    by_cases hlt : k < l.length
    · obtain ⟨s, hs⟩ : ∃ s, l[k]? = some s := ⟨l[k], List.getElem?_eq_getElem hlt⟩
      obtain ⟨g, rfl, hg, hc⟩ := hA.resolve_left (by rintro rfl; simp at hlt)
      have hsn := hl s (List.mem_of_getElem? hs)
      have pk := (hb.cell (p := ⟨g, k, none⟩) hg).trans (hc k s hs)
      have hsl := bts_len s
      have zr := hb.size
      have HS := Lib.hid hs
      clear hs hc hA
      by_cases h0 : s.size = 0
      · have hne := emp_yes h0
        go_wp2
        go_roundw
        case rel => exact ⟨k + 1, p, q, by omega, by go_num, rfl, rfl, hp, hq, bp, bq, hb, par_skip HS.out HK h0⟩
        case measure => simp [intOf]; omega
      · have hne := emp_no h0
        have hsn' := hsn.resolve_left h0
        have hxp : xorN p (bts s) = plusN p 1 (bts s) := plus1.symm
        have hxq : xorN q (scN (gpow (m255 k)) (bts s)) = plusN q (gpow (m255 k)) (bts s) := plus_sc.symm
        have X1 := fun w => xor_i (strN p) s w (by rw [strN_size]; omega) (by omega)
        have X2 := fun w => scaled_i s k w (by omega) (by omega)
        have X3 := fun w => xor_i (strN q) (strN (scN (gpow (m255 k)) (bts s))) w (by rw [strN_size, strN_size, scN_len]; omega) (by rw [strN_size, scN_len]; omega)
        rw [bts_strN bp, hxp] at X1
        rw [bts_strN bq, bts_strN (scN_lt bts_lt), hxq] at X3
        have l1 := plusN_len (a := p) (f := 1) (b := bts s) (by omega)
        have l2 := plusN_len (a := q) (f := gpow (m255 k)) (b := bts s) (by omega)
        have HX1 := Lib.hid X1
        have HX2 := Lib.hid X2
        have HX3 := Lib.hid X3
        clear X1 X2 X3 hxp hxq
        go_wp2_with (fail)
        refine (HX1.out _).mono ?_; rintro e w3 ⟨rfl, hb3⟩
        go_wp2_with (go_at_call 42; refine (HX2.out _).mono ?_; rintro e w4 ⟨rfl, hb4⟩)
        refine (HX3.out _).mono ?_; rintro e w5 ⟨rfl, hb5⟩
        have z3 := hb3.size
        have z4 := hb4.size
        go_wp2
        go_roundw
        case rel => exact ⟨k + 1, _, _, by omega, by go_num, rfl, rfl, by omega, by omega, plusN_lt bp bts_lt, plusN_lt bq bts_lt, (by repeat (first | exact Below.refl _ _ | refine Below.alloc ?_ (by first | omega | (simp; done) | (simp; omega)) _ | apply Below.drew | apply below_drewN | refine Below.setCell ?_ (by first | omega | (simp; done) | (simp; omega)) _ | refine Below.trans ?_ (Below.mono (by assumption) (by first | omega | (simp; done) | (simp; omega))))), par_next HS.out HK h0⟩
        case measure => simp [intOf]; omega
    · go_wp2
      have HE := par_end (by omega) HK
      rw [HE]
      exact bodyPost_ret (by simp [results, Try.results45, go_sem]; try rfl) rfl ⟨rfl, hb⟩
end Go.Proofs.Ytkdadaocbfbndaa
