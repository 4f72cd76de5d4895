/- Parity of a changed group: plain laws. -/
import Derived.Test.YtkdadaocbfbndaaUpdP
import Derived.Test.YtkdadaocbfbndaaCk
namespace Go.Proofs.Ytkdadaocbfbndaa
set_option linter.unusedVariables false
open Go.RowKit
theorem n3 (a b c : Nat) : (a ^^^ b) ^^^ c = (a ^^^ c) ^^^ b := by rw [Nat.xor_assoc, Nat.xor_comm b c, ← Nat.xor_assoc]
theorem plus_x {p d b : List Nat} {f n : Nat} (hp : p.length = n) (hd : d.length = n) (hb : b.length = n) : plusN (xorN p d) f b = xorN (plusN p f b) d := by
  apply List.ext_getElem
  · simp [plusN, xorN]; omega
  · intro i h1 h2
    simp only [plusN, xorN, List.getElem_zipWith]
    exact n3 _ _ _
theorem parF_xor {p q d e : List Nat} {n k : Nat} {r : List ByteArray} (hp : p.length = n) (hq : q.length = n) (hd : d.length = n) (he : e.length = n) (hr : ∀ s ∈ r, s.size = n) :
    parF (xorN p d) (xorN q e) k r = (xorN (parF p q k r).1 d, xorN (parF p q k r).2 e) := by
  induction r generalizing p q k with
  | nil => rfl
  | cons s r ih =>
    have hs := hr s List.mem_cons_self
    have hb := bts_len s
    have hr' : ∀ t ∈ r, t.size = n := fun t ht => hr t (List.mem_cons_of_mem _ ht)
    unfold parF
    split
    · exact ih hp hq hr'
    · rw [plus_x hp hd (by omega), plus_x hq he (by omega)]
      exact ih (by rw [plusN_len (by omega)]; exact hp) (by rw [plusN_len (by omega)]; exact hq) hr'
theorem plus_swap {p a b : List Nat} {f n : Nat} (hp : p.length = n) (ha : a.length = n) (hb : b.length = n) : plusN p f b = xorN (plusN p f a) (xorN (scN f a) (scN f b)) := by
  apply List.ext_getElem
  · simp [plusN, xorN, scN]; omega
  · intro i h1 h2
    simp only [plusN, xorN, scN, List.getElem_zipWith, List.getElem_map]
    rw [Nat.xor_assoc, ← Nat.xor_assoc (gmul _ f 0) (gmul _ f 0), Nat.xor_self, Nat.zero_xor]
theorem plus_two {p a b : List Nat} {f n : Nat} (hp : p.length = n) (ha : a.length = n) (hb : b.length = n) : xorN p (xorN (scN f a) (scN f b)) = plusN (plusN p f a) f b := by
  apply List.ext_getElem
  · simp [plusN, xorN, scN]; try omega
  · intro i h1 h2
    simp only [plusN, xorN, scN, List.getElem_zipWith, List.getElem_map]
    rw [Nat.xor_assoc]
theorem parF_set {l : List ByteArray} {i n : Nat} {s s' : ByteArray} {p q : List Nat} {k : Nat} (hp : p.length = n) (hq : q.length = n) (hn : 1 ≤ n) (hl : ∀ t ∈ l, t.size = n) (hi : l[i]? = some s) (hs' : s'.size = n) :
    parF p q k (l.set i s') = (plusN (plusN (parF p q k l).1 1 (bts s)) 1 (bts s'), plusN (plusN (parF p q k l).2 (gpow (m255 ((k + i : Nat) : Int))) (bts s)) (gpow (m255 ((k + i : Nat) : Int))) (bts s')) := by
  induction l generalizing p q k i with
  | nil => simp at hi
  | cons t r ih =>
    have ht := hl t List.mem_cons_self
    have hbt := bts_len t
    have hbs := bts_len s'
    have hr' : ∀ u ∈ r, u.size = n := fun u hu => hl u (List.mem_cons_of_mem _ hu)
    have l1 : (plusN p 1 (bts t)).length = n := by rw [plusN_len (by omega)]; exact hp
    have l2 : ∀ f, (plusN q f (bts t)).length = n := fun f => by rw [plusN_len (by omega)]; exact hq
    cases i with
    | zero =>
      obtain rfl : t = s := by simpa using hi
      rw [List.set_cons_zero]
      have e1 : parF p q k (t :: r) = parF (plusN p 1 (bts t)) (plusN q (gpow (m255 k)) (bts t)) (k + 1) r := by rw [parF, if_neg (by omega)]
      have e2 : parF p q k (s' :: r) = parF (plusN p 1 (bts s')) (plusN q (gpow (m255 k)) (bts s')) (k + 1) r := by rw [parF, if_neg (by omega)]
      have hX := parF_len (k := k + 1) (l := r) l1 (l2 (gpow (m255 k))) (fun u hu => .inr (hr' u hu))
      rw [e2, e1, plus_swap (a := bts t) hp (by omega) (by omega), plus_swap (a := bts t) (f := gpow (m255 k)) hq (by omega) (by omega),
        parF_xor l1 (l2 _) (by rw [xorN_len (by simp [scN]; omega)]; simp [scN]; omega) (by rw [xorN_len (by simp [scN]; omega)]; simp [scN]; omega) hr', plus_two hX.1 (by omega) (by omega), plus_two hX.2 (by omega) (by omega)]
      rfl
    | succ j =>
      rw [List.set_cons_succ]
      have hj : r[j]? = some s := by simpa using hi
      have := ih (p := plusN p 1 (bts t)) (q := plusN q (gpow (m255 k)) (bts t)) (k := k + 1) (i := j) l1 (l2 _) hr' hj
      have e1 : ∀ x, parF p q k (t :: x) = parF (plusN p 1 (bts t)) (plusN q (gpow (m255 k)) (bts t)) (k + 1) x := fun x => by rw [parF, if_neg (by omega)]
      rw [e1, e1, this, show k + 1 + j = k + (j + 1) by omega]
theorem group_set {l : List ByteArray} {i : Nat} {s s' : ByteArray} (hg : groupB l = true) (hi : l[i]? = some s) (hs : s'.size = s.size) : groupB (l.set i s') = true := by
  obtain ⟨s0, h0, h1, h2, h3, h4, h5⟩ := groupB_size hg
  have hss := h5 s (List.mem_of_getElem? hi)
  have hall : ∀ t ∈ l.set i s', t.size = s0.size := fun t ht => by
    rcases List.mem_or_eq_of_mem_set ht with ht | rfl
    · exact h5 t ht
    · exact hs.trans hss
  cases hl : l.set i s' with
  | nil => have : (l.set i s').length = 0 := by rw [hl]; rfl
           rw [List.length_set] at this; omega
  | cons t r =>
    have hlen : (t :: r).length = l.length := by rw [← hl, List.length_set]
    rw [hl] at hall
    have ht := hall t List.mem_cons_self
    unfold groupB sizesAre
    simp only [Bool.and_eq_true, decide_eq_true_eq, List.all_eq_true]
    exact ⟨⟨by omega, by omega, by omega⟩, fun u hu => (hall u hu).trans ht.symm⟩
theorem upd_law {l : List ByteArray} {k : Nat} {s s' : ByteArray} (hg : groupB l = true) (hk : l[k]? = some s) (hs : s'.size = s.size) : updR (mkR l).1 (mkR l).2.1 k s s' = mkV (l.set k s') := by
  have hg2 := group_set hg hk hs
  obtain ⟨s0, h0, h1, h2, h3, h4, h5⟩ := groupB_size hg
  have hss := h5 s (List.mem_of_getElem? hk)
  have hkl := (List.getElem?_eq_some_iff.1 hk).1
  have hpl := (parF_len (n := s0.size) (k := 0) (l := l) (p := List.replicate s0.size 0) (q := List.replicate s0.size 0) (by simp) (by simp) (fun t ht => .inr (h5 t ht)))
  have hpb := (parF_lt (k := 0) (l := l) (p := List.replicate s0.size 0) (q := List.replicate s0.size 0) zeros_lt zeros_lt)
  have hset := parF_set (p := List.replicate s0.size 0) (q := List.replicate s0.size 0) (k := 0) (by simp) (by simp) h1 h5 hk (hs.trans hss)
  obtain ⟨t0, ht0, ht0z⟩ : ∃ t, (l.set k s')[0]? = some t ∧ t.size = s0.size := by
    have hl0 : 0 < (l.set k s').length := by rw [List.length_set]; omega
    refine ⟨(l.set k s')[0], List.getElem?_eq_getElem hl0, ?_⟩
    rcases List.mem_or_eq_of_mem_set (List.getElem_mem hl0) with ht | ht
    · exact h5 _ ht
    · rw [ht]; exact hs.trans hss
  have hM := mkR_yes hg h0
  have hM2 := mkR_yes hg2 ht0
  rw [ht0z, hset] at hM2
  have z1 : (mkR l).1.size = s0.size := by rw [hM, strN_size]; exact hpl.1
  have z2 : (mkR l).2.1.size = s0.size := by rw [hM, strN_size]; exact hpl.2
  have hg4 : groupB [(mkR l).1, (mkR l).2.1, s, s'] = true := by
    rw [group4]
    simp only [Bool.and_eq_true, decide_eq_true_eq]
    omega
  have hin : inB (k : Int) 0 127 = true := inB_t (by omega)
  unfold updR mkV
  rw [hg4, hin, hM2, hM]
  simp only [if_true, Nat.zero_add]
  rw [bts_strN hpb.1, bts_strN hpb.2]
theorem ck_law {l : List ByteArray} (hg : groupB l = true) : ckV l (mkR l).1 (mkR l).2.1 = .tuple #[.bool true, .int .i64 0] := by
  obtain ⟨s0, h0, h1, h2, h3, h4, h5⟩ := groupB_size hg
  have hpl := (parF_len (n := s0.size) (k := 0) (l := l) (p := List.replicate s0.size 0) (q := List.replicate s0.size 0) (by simp) (by simp) (fun t ht => .inr (h5 t ht)))
  have hM := mkR_yes hg h0
  have hok : ckOk l (mkR l).1 (mkR l).2.1 = true := by
    rw [ckOk_head hg h0, hM]
    simp only [strN_size, Bool.and_eq_true, decide_eq_true_eq]
    exact hpl
  exact ckV_yes (x := true) (y := true) hok rfl rfl (by simp) (by simp)
end Go.Proofs.Ytkdadaocbfbndaa
