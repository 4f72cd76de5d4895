/- A single changed byte of a group is found: plain laws. -/
import Derived.Test.YtkdadaocbfbndaaField
import Derived.Test.YtkdadaocbfbndaaParLaw
import Derived.Test.YtkdadaocbfbndaaFdS
namespace Go.Proofs.Ytkdadaocbfbndaa
set_option linter.unusedVariables false
open Go.RowKit
theorem fd_same {l : List ByteArray} (hg : groupB l = true) : fdV l (mkR l).1 (mkR l).2.1 = .tuple #[.int .i64 (-1), .int .i64 0] := by
  have h := ck_law hg
  unfold ckV ckR at h
  have hok : ckOk l (mkR l).1 (mkR l).2.1 = true := by
    cases ho : ckOk l (mkR l).1 (mkR l).2.1
    · rw [ho] at h; simp at h
    · rfl
  unfold fdV fdR
  rw [hok]
  simp
theorem fdL_first {ch : List Nat} {ot : ByteArray} {k n m : Nat} (hkn : k + m = n) {i : Nat} (hki : k ≤ i) (hi : i < n) (hno : ∀ j, k ≤ j → j < i → ((strN (scN (gpow (m255 j)) ch)).toList == ot.toList) = false) (hyes : ((strN (scN (gpow (m255 i)) ch)).toList == ot.toList) = true) : fdL ch ot k m = ((i : Int), 0) := by
  induction m generalizing k with
  | zero => omega
  | succ m ih =>
    by_cases he : k = i
    · subst he
      rw [fdL, if_pos hyes]
    · rw [fdL, if_neg (by rw [hno k (Nat.le_refl _) (by omega)]; decide)]
      exact ih (by omega) (by omega) (fun j h1 h2 => hno j (by omega) h2)
theorem ne_toList {a b : List Nat} (ha : ∀ x ∈ a, x < 256) (hb : ∀ x ∈ b, x < 256) (h : a ≠ b) : ((strN a).toList == (strN b).toList) = false := by
  rw [beq_eq_false_iff_ne]
  intro he
  exact h (strN_inj ha hb (toList_inj he))
theorem m255_nat {k : Nat} (h : k < 255) : m255 (k : Int) = k := by unfold m255; omega
theorem fd_law {l : List ByteArray} {at_ j d : Nat} {s : ByteArray} (hg : groupB l = true) (hk : l[at_]? = some s) (hj : j < s.size) (hd : d < 256) (hd0 : d ≠ 0) :
    fdV (l.set at_ (strN ((bts s).set j ((bts s).getD j 0 ^^^ d)))) (mkR l).1 (mkR l).2.1 = .tuple #[.int .i64 at_, .int .i64 0] := by
  have hbl := bts_len s
  obtain ⟨x, hx⟩ : ∃ x, (bts s)[j]? = some x := ⟨(bts s)[j]'(by omega), List.getElem?_eq_getElem (by omega)⟩
  have hxb := bts_lt x (List.mem_of_getElem? hx)
  have hgd : (bts s).getD j 0 = x := by rw [List.getD_eq_getElem?_getD, hx]; rfl
  rw [hgd]
  have hyb : x ^^^ d < 256 := Nat.xor_lt_two_pow (n := 8) hxb hd
  generalize hB : (bts s).set j (x ^^^ d) = B
  have hBl : B.length = s.size := by rw [← hB, List.length_set]; omega
  have hBb : ∀ y ∈ B, y < 256 := by
    intro y hy
    rw [← hB] at hy
    rcases List.mem_or_eq_of_mem_set hy with hy | rfl
    · exact bts_lt y hy
    · exact hyb
  have hs' : (strN B).size = s.size := by rw [strN_size]; exact hBl
  have hbB : bts (strN B) = B := bts_strN hBb
  have hg2 := group_set hg hk hs'
  obtain ⟨s0, h0, h1, h2, h3, h4, h5⟩ := groupB_size hg
  have hss := h5 s (List.mem_of_getElem? hk)
  have hkl := (List.getElem?_eq_some_iff.1 hk).1
  have hpl := (parF_len (n := s0.size) (k := 0) (l := l) (p := List.replicate s0.size 0) (q := List.replicate s0.size 0) (by simp) (by simp) (fun t ht => .inr (h5 t ht)))
  have hpb := (parF_lt (k := 0) (l := l) (p := List.replicate s0.size 0) (q := List.replicate s0.size 0) zeros_lt zeros_lt)
  have hset := parF_set (p := List.replicate s0.size 0) (q := List.replicate s0.size 0) (k := 0) (by simp) (by simp) h1 h5 hk (hs'.trans hss)
  obtain ⟨t0, ht0, ht0z⟩ : ∃ t, (l.set at_ (strN B))[0]? = some t ∧ t.size = s0.size := by
    have hl0 : 0 < (l.set at_ (strN B)).length := by rw [List.length_set]; omega
    refine ⟨(l.set at_ (strN B))[0], List.getElem?_eq_getElem hl0, ?_⟩
    rcases List.mem_or_eq_of_mem_set (List.getElem_mem hl0) with ht | ht
    · exact h5 _ ht
    · rw [ht]; exact hs'.trans hss
  have hM := mkR_yes hg h0
  have hM2 := mkR_yes hg2 ht0
  rw [ht0z, hset, hbB, Nat.zero_add] at hM2
  generalize (parF (List.replicate s0.size 0) (List.replicate s0.size 0) 0 l).1 = P at *
  generalize (parF (List.replicate s0.size 0) (List.replicate s0.size 0) 0 l).2 = Q at *
  rw [m255_nat (by omega)] at hM2
  have hf := gpow_lt at_
  -- the two differences
  have len1 : (xorN (bts s) B).length = s0.size := by rw [xorN_len (by omega)]; omega
  have e1 : xorN (plusN (plusN P 1 (bts s)) 1 B) P = xorN (bts s) B := by
    apply List.ext_getElem
    · simp [plusN, xorN]; omega
    · intro i q1 q2
      simp only [plusN, xorN, List.getElem_zipWith, gmul_one]
      rw [Nat.xor_assoc (P[i]'_), Nat.xor_comm, ← Nat.xor_assoc, Nat.xor_self, Nat.zero_xor]
  have e2 : xorN (plusN (plusN Q (gpow at_) (bts s)) (gpow at_) B) Q = scN (gpow at_) (xorN (bts s) B) := by
    apply List.ext_getElem
    · simp [plusN, xorN, scN]; omega
    · intro i q1 q2
      simp only [plusN, xorN, scN, List.getElem_zipWith, List.getElem_map]
      rw [gmul_lin (bts_lt _ (List.getElem_mem _)) (hBb _ (List.getElem_mem _)), Nat.xor_assoc (Q[i]'_), Nat.xor_comm, ← Nat.xor_assoc, Nat.xor_self, Nat.zero_xor]
  have hE : (xorN (bts s) B)[j]? = some d := by
    have hBj : B[j]? = some (x ^^^ d) := by rw [← hB, List.getElem?_set_self (by omega)]
    rw [xorN_get hx hBj, ← Nat.xor_assoc, Nat.xor_self, Nat.zero_xor]
  have hEb : ∀ y ∈ xorN (bts s) B, y < 256 := xorN_lt bts_lt hBb
  have sc_j : ∀ f, (scN f (xorN (bts s) B))[j]? = some (gmul d f 0) := fun f => scN_get hE
  have pb1 : ∀ y ∈ plusN (plusN P 1 (bts s)) 1 B, y < 256 := plusN_lt (plusN_lt hpb.1 bts_lt) hBb
  have pb2 : ∀ y ∈ plusN (plusN Q (gpow at_) (bts s)) (gpow at_) B, y < 256 := plusN_lt (plusN_lt hpb.2 bts_lt) hBb
  have hx1 : ((strN (plusN (plusN P 1 (bts s)) 1 B)).toList == (strN P).toList) = false := by
    apply ne_toList pb1 hpb.1
    intro he
    rw [he] at e1
    have : (xorN P P)[j]? = some d := by rw [e1]; exact hE
    obtain ⟨y, hy⟩ : ∃ y, P[j]? = some y := ⟨P[j]'(by omega), List.getElem?_eq_getElem (by omega)⟩
    rw [xorN_get hy hy, Nat.xor_self] at this
    simp at this; omega
  have hy1 : ((strN (plusN (plusN Q (gpow at_) (bts s)) (gpow at_) B)).toList == (strN Q).toList) = false := by
    apply ne_toList pb2 hpb.2
    intro he
    rw [he] at e2
    have : (xorN Q Q)[j]? = some (gmul d (gpow at_) 0) := by rw [e2]; exact sc_j _
    obtain ⟨y, hy⟩ : ∃ y, Q[j]? = some y := ⟨Q[j]'(by omega), List.getElem?_eq_getElem (by omega)⟩
    rw [xorN_get hy hy, Nat.xor_self] at this
    have hne := gmul_ne hd hf hd0 (gpow_ne at_)
    simp at this; omega
  have hok : ckOk (l.set at_ (strN B)) (mkR l).1 (mkR l).2.1 = true := by
    rw [ckOk_head hg2 ht0, hM]
    simp only [strN_size, Bool.and_eq_true, decide_eq_true_eq]
    omega
  have hfind : fdL (xorN (bts s) B) (strN (scN (gpow at_) (xorN (bts s) B))) 0 (l.set at_ (strN B)).length = ((at_ : Int), 0) := by
    refine fdL_first (n := (l.set at_ (strN B)).length) (by omega) (Nat.zero_le _) (by rw [List.length_set]; exact hkl) (fun i _ hi => ?_) (by rw [m255_nat (by omega)]; simp)
    rw [m255_nat (by omega)]
    apply ne_toList (scN_lt hEb) (scN_lt hEb)
    intro he
    have h6 := sc_j (gpow i)
    rw [he, sc_j] at h6
    have h7 : gmul d (gpow at_) 0 = gmul d (gpow i) 0 := by simpa using h6
    have := gpow_inj (by omega) (by omega) (gmul_inj hd hd0 hf (gpow_lt i) h7)
    omega
  unfold fdV fdR
  rw [hok, hM2, hM]
  simp only [if_true]
  rw [hx1, hy1, bts_strN pb1, bts_strN hpb.1, bts_strN pb2, bts_strN hpb.2, e1, e2, hfind]
  simp
end Go.Proofs.Ytkdadaocbfbndaa
