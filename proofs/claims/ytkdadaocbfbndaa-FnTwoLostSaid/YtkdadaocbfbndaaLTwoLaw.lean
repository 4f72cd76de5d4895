/- Lost blocks of a group are restored: plain laws. -/
import Derived.Test.YtkdadaocbfbndaaRTwoS
import Derived.Test.YtkdadaocbfbndaaField
namespace Go.Proofs.Ytkdadaocbfbndaa
set_option linter.unusedVariables false
open Go.RowKit
theorem x3 (u1 u2 u3 : Nat) : ((u1 ^^^ u2) ^^^ u3) ^^^ u1 = u2 ^^^ u3 := by rw [n3 (u1 ^^^ u2) u3 u1, n3 u1 u2 u1, Nat.xor_self, Nat.zero_xor]
theorem x5 (u1 u2 u3 u4 : Nat) : (((u4 ^^^ u1) ^^^ u3) ^^^ u4) ^^^ (u2 ^^^ u3) = u1 ^^^ u2 := by
  rw [n3 (u4 ^^^ u1) u3 u4, n3 u4 u1 u4, Nat.xor_self, Nat.zero_xor, Nat.xor_assoc, ← Nat.xor_assoc u3, Nat.xor_comm u3 u2, Nat.xor_assoc u2, Nat.xor_self, Nat.xor_zero]
theorem m255_nat' {k : Nat} (h : k < 255) : m255 (k : Int) = k := by unfold m255; omega
theorem xtI_comp (i j a : Nat) : xtI i (xtI j a) = xtI (i + j) a := by
  induction i with
  | zero => rw [Nat.zero_add]; rfl
  | succ i ih => rw [show i + 1 + j = (i + j) + 1 by omega]; show xt (xtI i (xtI j a)) = xt (xtI (i + j) a); rw [ih]
theorem gmul_log {a b : Nat} (ha : a < 256) (h0 : a ≠ 0) (hb : b < 256) : gmul a b 0 = xtI (lg.getD a 0) b := by
  have := gmul_pow (k := lg.getD a 0) hb
  rwa [lg_of ha h0] at this
theorem gmul_assoc {a b c : Nat} (ha : a < 256) (hb : b < 256) (hc : c < 256) : gmul (gmul a b 0) c 0 = gmul a (gmul b c 0) 0 := by
  by_cases ha0 : a = 0
  · subst ha0; rw [gmul_of_zero, gmul_of_zero, gmul_of_zero]
  · by_cases hb0 : b = 0
    · subst hb0; rw [gmul_zero, gmul_of_zero, gmul_zero]
    · have hbc := gmul_lt (a := b) (b := c) (acc := 0) hb (by omega)
      rw [gmul_log ha ha0 hb, gmul_log ha ha0 hbc, gmul_log hb hb0 hc, xtI_comp]
      have e : xtI (lg.getD a 0) b = xtI (lg.getD a 0 + lg.getD b 0) 1 := by rw [← xtI_comp, lg_of hb hb0]
      rw [e, gmul_pow hc]
theorem xtI_255 : xtI 255 1 = 1 := by kernel_rfl
theorem invG_ok {a x n : Nat} (h : ∃ y, x ≤ y ∧ y < x + n ∧ gmul a y 0 = 1) : gmul a (invG a x n) 0 = 1 := by
  induction n generalizing x with
  | zero => obtain ⟨y, h1, h2, _⟩ := h; omega
  | succ n ih =>
    unfold invG
    by_cases hc : (gmul a x 0 == 1) = true
    · rw [if_pos hc]; exact beq_iff_eq.1 hc
    · rw [if_neg hc]
      obtain ⟨y, h1, h2, h3⟩ := h
      refine ih ⟨y, ?_, by omega, h3⟩
      by_cases hxy : x = y
      · subst hxy; exact absurd (beq_iff_eq.2 h3) hc
      · omega
theorem lg_lt {a : Nat} (ha : a < 256) : lg.getD a 0 < 255 := by
  have hb : (lg.all fun x => decide (x < 255)) = true := by kernel_rfl
  have : ∀ x ∈ lg, x < 255 := fun x hx => of_decide_eq_true (List.all_eq_true.1 hb x hx)
  rw [List.getD_eq_getElem?_getD]
  cases h : lg[a]? with
  | none => decide
  | some x => exact this x (List.mem_of_getElem? h)
theorem inv_ok {a : Nat} (ha : a < 256) (h0 : a ≠ 0) : gmul a (invF a) 0 = 1 := by
  refine invG_ok ?_
  have hk := lg_lt ha
  have hx : xtI (255 - lg.getD a 0) 1 < 256 := xtI_lt (by omega)
  have hg : gmul a (xtI (255 - lg.getD a 0) 1) 0 = 1 := by
    rw [gmul_log ha h0 hx, xtI_comp, show lg.getD a 0 + (255 - lg.getD a 0) = 255 by omega, xtI_255]
  have hne : xtI (255 - lg.getD a 0) 1 ≠ 0 := xtI_ne (by omega) (by omega)
  exact ⟨_, by omega, by omega, hg⟩
theorem sc_inv {g : Nat} {A : List Nat} (hg : g < 256) (h0 : g ≠ 0) (hA : ∀ x ∈ A, x < 256) : scN (invF g) (scN g A) = A := by
  unfold scN
  rw [List.map_map]
  conv => rhs; rw [← List.map_id A]
  refine List.map_congr_left fun x hx => ?_
  show gmul (gmul x g 0) (invF g) 0 = x
  rw [gmul_assoc (hA x hx) hg (inv_lt g), inv_ok hg h0, gmul_one]
theorem xor_xx {a b : List Nat} {n : Nat} (ha : a.length = n) (hb : b.length = n) : xorN (xorN a b) a = b := by
  refine List.ext_getElem (by simp [xorN]; omega) fun k h1 h2 => ?_
  simp only [xorN, List.getElem_zipWith]
  rw [Nat.xor_comm, ← Nat.xor_assoc, Nat.xor_self, Nat.zero_xor]
theorem ls_agree {L : List Int} {le l : List ByteArray} (hl : le.length = l.length) (h : ∀ k, hasB L k = false → le[k]? = l[k]?) : leftG L le = leftG L l := by
  refine List.ext_getElem? fun k => ?_
  by_cases hk : k < l.length
  · rw [left_get (List.getElem?_eq_getElem hk), left_get (List.getElem?_eq_getElem (by omega : k < le.length))]
    cases hh : hasB L k
    · have := h k hh
      rw [List.getElem?_eq_getElem hk, List.getElem?_eq_getElem (by omega : k < le.length)] at this
      rw [Option.some.inj this]
    · rfl
  · rw [List.getElem?_eq_none (by rw [left_len]; omega), List.getElem?_eq_none (by rw [left_len]; omega)]
theorem kn_agree {L : List Int} {j : Nat} {le l : List ByteArray} (hl : le.length = l.length) (h : ∀ k, hasB L (j + k) = false → le[k]? = l[k]?) : knF L j le = knF L j l := by
  induction l generalizing le j with
  | nil => obtain rfl := List.eq_nil_of_length_eq_zero hl; rfl
  | cons a r ih =>
    cases le with
    | nil => simp at hl
    | cons b t =>
      have ht := ih (le := t) (j := j + 1) (by simpa using hl) (fun k hk => by
        have := h (k + 1) (by rw [← hk]; congr 1; omega)
        simpa using this)
      unfold knF
      rw [ht]
      by_cases hh : hasB L j = true
      · rw [if_pos hh, if_pos hh]
      · rw [if_neg hh, if_neg hh]
        have := h 0 (by simpa using hh)
        simp at this
        rw [this]
theorem r2_agree {L : List Int} {le l : List ByteArray} {p q : ByteArray} (hl : le.length = l.length) (h : ∀ k, hasB L k = false → le[k]? = l[k]?) : r2E le L p q = r2E l L p q := by
  have h1 := ls_agree hl h
  have h2 : ktF le L [p, q] = ktF l L [p, q] := by
    unfold ktF; rw [kn_agree hl (fun k hk => h k (by rw [← hk]; congr 1; omega))]
  have h3 : rK le L p q = rK l L p q := by unfold rK; rw [hl, h2]
  have h4 : rX le L p q = rX l L p q := by unfold rX; rw [h3, h1]
  have h5 : rY le L p q = rY l L p q := by unfold rY; rw [h3, h1]
  unfold r2E
  rw [h1, h3, h4, h5, hl]
theorem r1_agree {i : Int} {le l : List ByteArray} {p : ByteArray} (hl : le.length = l.length) (h : ∀ k, hasB [i] k = false → le[k]? = l[k]?) : r1E le i p = r1E l i p := by
  have h1 := ls_agree hl h
  have h2 : ktF le [i] [p] = ktF l [i] [p] := by
    unfold ktF; rw [kn_agree hl (fun k hk => h k (by rw [← hk]; congr 1; omega))]
  have h3 : r1K le i p = r1K l i p := by unfold r1K; rw [hl, h2]
  have h4 : r1X le i p = r1X l i p := by unfold r1X; rw [h3, h1]
  unfold r1E
  rw [h3, h4, hl]
theorem set_agree {L : List Int} {a b : Nat} {l : List ByteArray} {x y : ByteArray} (ha : hasB L a = true) (hb : hasB L b = true) : ∀ k, hasB L k = false → ((l.set a x).set b y)[k]? = l[k]? := by
  intro k hk
  rw [List.getElem?_set_ne (by rintro rfl; rw [hb] at hk; cases hk), List.getElem?_set_ne (by rintro rfl; rw [ha] at hk; cases hk)]
theorem set_agree1 {L : List Int} {a : Nat} {l : List ByteArray} {x : ByteArray} (ha : hasB L a = true) : ∀ k, hasB L k = false → (l.set a x)[k]? = l[k]? := by
  intro k hk
  rw [List.getElem?_set_ne (by rintro rfl; rw [ha] at hk; cases hk)]
/-- a group and its parity, as numbers -/
structure Par (l : List ByteArray) (n : Nat) (P Q : List Nat) : Prop where
  n1 : 1 ≤ n
  n2 : n ≤ 64
  l2 : l.length ≤ 128
  sz : ∀ s ∈ l, s.size = n
  pq : parF (List.replicate n 0) (List.replicate n 0) 0 l = (P, Q)
theorem Par.len {l : List ByteArray} {n : Nat} {P Q : List Nat} (h : Par l n P Q) : (P.length = n ∧ Q.length = n) ∧ (∀ x ∈ P, x < 256) ∧ (∀ x ∈ Q, x < 256) := by
  have h1 := parF_len (n := n) (k := 0) (l := l) (p := List.replicate n 0) (q := List.replicate n 0) (by simp) (by simp) (fun t ht => .inr (h.sz t ht))
  have h2 := parF_lt (k := 0) (l := l) (p := List.replicate n 0) (q := List.replicate n 0) zeros_lt zeros_lt
  rw [h.pq] at h1 h2
  exact ⟨h1, h2⟩
theorem Par.set {l : List ByteArray} {n i : Nat} {P Q : List Nat} {s : ByteArray} (h : Par l n P Q) (hi : l[i]? = some s) : Par (l.set i (strN (List.replicate n 0))) n (xorN P (bts s)) (xorN Q (scN (gpow i) (bts s))) := by
  have hil := (List.getElem?_eq_some_iff.1 hi).1
  have hl2 := h.l2
  have hs := parF_set (p := List.replicate n 0) (q := List.replicate n 0) (k := 0) (s' := strN (List.replicate n 0)) (by simp) (by simp) h.n1 h.sz hi (by rw [strN_size]; simp)
  rw [h.pq, Nat.zero_add, m255_nat' (by omega), bts_zero] at hs
  replace hs : parF (List.replicate n 0) (List.replicate n 0) 0 (l.set i (strN (List.replicate n 0))) = (plusN (plusN P 1 (bts s)) 1 (List.replicate n 0), plusN (plusN Q (gpow i) (bts s)) (gpow i) (List.replicate n 0)) := hs
  obtain ⟨⟨l1, l2⟩, _⟩ := h.len
  have hsn := h.sz s (List.mem_of_getElem? hi)
  have hb := bts_len s
  refine ⟨h.n1, h.n2, by rw [List.length_set]; exact hl2, fun t ht => ?_, ?_⟩
  · rcases List.mem_or_eq_of_mem_set ht with ht | ht
    · exact h.sz t ht
    · rw [ht, strN_size]; simp
  · rw [hs, plus_zero (by rw [plusN_len (by omega)]; exact l1), plus_zero (by rw [plusN_len (by omega)]; exact l2), plus1, plus_sc]
theorem zer_is1 {n m : Nat} {l : List ByteArray} : zerL n [(m : Int)] l = l.set m (strN (List.replicate n 0)) := by
  refine List.ext_getElem? fun k => ?_
  by_cases hk : k < l.length
  · rw [zer_get (List.getElem?_eq_getElem hk), List.getElem?_set]
    by_cases h : m = k
    · subst h; simp [hasB, hk]
    · rw [if_neg h, if_neg (by simp [hasB]; omega), List.getElem?_eq_getElem hk]
  · rw [List.getElem?_eq_none (by rw [zer_len]; omega), List.getElem?_eq_none (by rw [List.length_set]; omega)]
theorem zer_is2 {n m j : Nat} {l : List ByteArray} : zerL n [(m : Int), (j : Int)] l = (l.set m (strN (List.replicate n 0))).set j (strN (List.replicate n 0)) := by
  refine List.ext_getElem? fun k => ?_
  by_cases hk : k < l.length
  · rw [zer_get (List.getElem?_eq_getElem hk), List.getElem?_set, List.getElem?_set]
    by_cases h : j = k
    · subst h; simp [hasB, hk]
    · rw [if_neg h]
      by_cases h' : m = k
      · subst h'; simp [hasB, hk]
      · rw [if_neg h', if_neg (by simp [hasB]; omega), List.getElem?_eq_getElem hk]
  · rw [List.getElem?_eq_none (by rw [zer_len]; omega), List.getElem?_eq_none (by rw [List.length_set, List.length_set]; omega)]
theorem kn_sub {L : List Int} {k : Nat} {l : List ByteArray} {x : ByteArray} (h : x ∈ knF L k l) : x ∈ l := by
  induction l generalizing k with
  | nil => simp [knF] at h
  | cons a r ih =>
    unfold knF at h
    split at h
    · exact List.mem_cons_of_mem _ (ih h)
    · cases List.mem_cons.1 h with
      | inl h => subst h; exact List.mem_cons_self
      | inr h => exact List.mem_cons_of_mem _ (ih h)
theorem Par.k {l : List ByteArray} {n : Nat} {P Q : List Nat} (h : Par l n P Q) (L : List Int) {p : ByteArray} (hp : p.size = 0 ∨ p.size = n) : rK l L p (strN Q) = n ∧ allS n (ktF l L [p, strN Q]) := by
  obtain ⟨⟨l1, l2⟩, _⟩ := h.len
  have hn := h.n1
  have hq : (strN Q).size = n := by rw [strN_size]; exact l2
  have hne : (strN Q).toList.isEmpty = false := emp_no (by omega)
  have hmem : strN Q ∈ neF [p, strN Q] := by
    have hq' : strN Q ∈ neF [strN Q] := by rw [ne_c, if_neg (by rw [hne]; decide)]; exact List.mem_cons_self
    rw [ne_c]
    split
    · exact hq'
    · exact List.mem_cons_of_mem _ hq'
  have hall : allS n (ktF l L [p, strN Q]) := fun x hx => by
    cases List.mem_append.1 hx with
    | inl hx => exact h.sz x (kn_sub hx)
    | inr hx =>
      have hx' := List.mem_filter.1 hx
      simp only [List.mem_cons, List.not_mem_nil, or_false] at hx'
      rcases hx'.1 with rfl | rfl
      · rcases hp with h0 | h0
        · have := hx'.2; rw [emp_yes h0] at this; cases this
        · exact h0
      · exact hq
  exact ⟨(szK_pos (by omega)).2 ⟨List.ne_nil_of_mem (List.mem_append_right _ hmem), hall, h.n2, h.l2⟩, hall⟩
theorem rises_1 {i n : Nat} (hi : i < n) : risesB 0 ((n : Int) - 1) [(i : Int)] = true := by
  unfold risesB risesF
  rw [inB_t (by omega)]; rfl
theorem rises_2 {i j n : Nat} (hi : i < j) (hj : j < n) : risesB 0 ((n : Int) - 1) [(i : Int), (j : Int)] = true := by
  unfold risesB
  rw [risesF_cons, risesF_cons, inB_t (by omega), inB_t (by omega)]
  show ((true && true) && ((true && !decide ((j : Int) ≤ (i : Int))) && true)) = true
  rw [decide_eq_false (by omega)]; rfl
theorem back1 {m : Nat} {l : List ByteArray} {s : ByteArray} (hm : l[m]? = some s) : (leftG [(m : Int)] l).set m s = l := by
  refine List.ext_getElem? fun k => ?_
  rw [List.getElem?_set, left_len]
  by_cases h : m = k
  · subst h; rw [if_pos rfl, if_pos (List.getElem?_eq_some_iff.1 hm).1, hm]
  · rw [if_neg h]
    by_cases hk : k < l.length
    · rw [left_get (List.getElem?_eq_getElem hk), if_neg (by simp [hasB]; omega), List.getElem?_eq_getElem hk]
    · rw [List.getElem?_eq_none (by rw [left_len]; omega), List.getElem?_eq_none (by omega)]
theorem back2 {m j : Nat} {l : List ByteArray} {s t : ByteArray} (hm : l[m]? = some s) (hj : l[j]? = some t) : ((leftG [(m : Int), (j : Int)] l).set m s).set j t = l := by
  refine List.ext_getElem? fun k => ?_
  rw [List.getElem?_set, List.length_set, left_len]
  by_cases h : j = k
  · subst h; rw [if_pos rfl, if_pos (List.getElem?_eq_some_iff.1 hj).1, hj]
  · rw [if_neg h, List.getElem?_set, left_len]
    by_cases h' : m = k
    · subst h'; rw [if_pos rfl, if_pos (List.getElem?_eq_some_iff.1 hm).1, hm]
    · rw [if_neg h']
      by_cases hk : k < l.length
      · rw [left_get (List.getElem?_eq_getElem hk), if_neg (by simp [hasB]; omega), List.getElem?_eq_getElem hk]
      · rw [List.getElem?_eq_none (by rw [left_len]; omega), List.getElem?_eq_none (by omega)]
theorem Par.xy {l : List ByteArray} {n : Nat} {P Q : List Nat} (h : Par l n P Q) {L : List Int} {p : ByteArray} (hp : p.size = 0 ∨ p.size = n) {X Y : List Nat} (hz : Par (zerL n L l) n X Y) : rX l L p (strN Q) = X ∧ rY l L p (strN Q) = Y := by
  obtain ⟨hk, hall⟩ := h.k L hp
  have hn := h.n1
  have e := par_left (bl := l) (mo := [p, strN Q]) (L := L) (n := n) (by omega) hall
  rw [hz.pq] at e
  unfold rX rY
  rw [hk, ← e]
  exact ⟨rfl, rfl⟩
theorem one_law {l : List ByteArray} {n i : Nat} {P Q : List Nat} {s : ByteArray} (h : Par l n P Q) (hi : l[i]? = some s) : r2E l [(i : Int)] (strN P) (strN Q) = (l, 0) := by
  have hil := (List.getElem?_eq_some_iff.1 hi).1
  obtain ⟨⟨l1, l2⟩, b1, b2⟩ := h.len
  have hn := h.n1
  have hps : (strN P).size = n := by rw [strN_size]; exact l1
  have hqs : (strN Q).size = n := by rw [strN_size]; exact l2
  have hk := (h.k [(i : Int)] (.inr hps)).1
  have hz := h.set hi
  rw [← zer_is1] at hz
  obtain ⟨hX, hY⟩ := h.xy (.inr hps) hz
  rw [r2_0 (rises_1 hil) (by rw [hk]; omega) (by unfold cntL e1; rw [if_neg (by omega), if_neg (by omega)]; simp), hX]
  have hsn := h.sz s (List.mem_of_getElem? hi)
  have hbs := bts_len s
  show ((leftG [(i : Int)] l).set (i : Int).toNat (if (strN P).size = 0 then _ else _), (0 : Int)) = _
  rw [if_neg (by omega), bts_strN b1, xor_xx l1 (by omega), strN_bts, Int.toNat_natCast, back1 hi]
theorem one_law0 {l : List ByteArray} {n i : Nat} {P Q : List Nat} {s : ByteArray} (h : Par l n P Q) (hi : l[i]? = some s) : r2E l [(i : Int)] .empty (strN Q) = (l, 0) := by
  have hil := (List.getElem?_eq_some_iff.1 hi).1
  obtain ⟨⟨l1, l2⟩, b1, b2⟩ := h.len
  have hn := h.n1
  have hl2 := h.l2
  have hqs : (strN Q).size = n := by rw [strN_size]; exact l2
  have hk := (h.k [(i : Int)] (p := .empty) (.inl rfl)).1
  have hz := h.set hi
  rw [← zer_is1] at hz
  obtain ⟨hX, hY⟩ := h.xy (p := .empty) (.inl rfl) hz
  have e0 : e1 .empty = 1 := rfl
  rw [r2_0 (rises_1 hil) (by rw [hk]; omega) (by unfold cntL; rw [e0]; unfold e1; rw [if_neg (by omega)]; simp), hY]
  have hsn := h.sz s (List.mem_of_getElem? hi)
  have hbs := bts_len s
  show ((leftG [(i : Int)] l).set (i : Int).toNat (if ByteArray.empty.size = 0 then _ else _), (0 : Int)) = _
  rw [if_pos (show ByteArray.empty.size = 0 from rfl), bts_strN b2, xor_xx l2 (by rw [scN_len]; omega), m255_nat' (by omega), sc_inv (gpow_lt i) (gpow_ne i) bts_lt, strN_bts, Int.toNat_natCast, back1 hi]
theorem one_lawR {l : List ByteArray} {n i : Nat} {P Q : List Nat} {s : ByteArray} (h : Par l n P Q) (hi : l[i]? = some s) : r1E l (i : Int) (strN P) = (s, 0) := by
  have hil := (List.getElem?_eq_some_iff.1 hi).1
  obtain ⟨⟨l1, l2⟩, b1, b2⟩ := h.len
  have hn := h.n1
  have hps : (strN P).size = n := by rw [strN_size]; exact l1
  have hne : (strN P).toList.isEmpty = false := emp_no (by omega)
  have hmem : strN P ∈ neF [strN P] := by rw [ne_c, if_neg (by rw [hne]; decide)]; exact List.mem_cons_self
  have hall : allS n (ktF l [(i : Int)] [strN P]) := fun x hx => by
    cases List.mem_append.1 hx with
    | inl hx => exact h.sz x (kn_sub hx)
    | inr hx =>
      have hx' := List.mem_filter.1 hx
      simp only [List.mem_cons, List.not_mem_nil, or_false] at hx'
      rw [hx'.1]; exact hps
  have hk : r1K l (i : Int) (strN P) = n := (szK_pos (by omega)).2 ⟨List.ne_nil_of_mem (List.mem_append_right _ hmem), hall, h.n2, h.l2⟩
  have hz := h.set hi
  rw [← zer_is1] at hz
  have e := par_left (bl := l) (mo := [strN P]) (L := [(i : Int)]) (n := n) (by omega) hall
  rw [hz.pq] at e
  have hsn := h.sz s (List.mem_of_getElem? hi)
  have hbs := bts_len s
  have hXX : r1X l (i : Int) (strN P) = bts s := by
    unfold r1X
    rw [hk, ← e, bts_strN b1]
    exact xor_xx l1 (by omega)
  unfold r1E
  rw [if_neg (by rw [inB_t (by omega)]; decide), if_neg (by rw [hk]; omega), hXX, strN_bts]
theorem two_law {l : List ByteArray} {n i j : Nat} {P Q : List Nat} {s t : ByteArray} (h : Par l n P Q) (hi : l[i]? = some s) (hj : l[j]? = some t) (hij : i < j) : r2E l [(i : Int), (j : Int)] (strN P) (strN Q) = (l, 0) := by
  have hil := (List.getElem?_eq_some_iff.1 hi).1
  have hjl := (List.getElem?_eq_some_iff.1 hj).1
  obtain ⟨⟨l1, l2⟩, b1, b2⟩ := h.len
  have hn := h.n1
  have hl2 := h.l2
  have hps : (strN P).size = n := by rw [strN_size]; exact l1
  have hqs : (strN Q).size = n := by rw [strN_size]; exact l2
  have hk := (h.k [(i : Int), (j : Int)] (.inr hps)).1
  have hz := (h.set hi).set (i := j) (s := t) (by rw [List.getElem?_set, if_neg (by omega)]; exact hj)
  rw [← zer_is2] at hz
  obtain ⟨hX, hY⟩ := h.xy (.inr hps) hz
  rw [r2_0 (rises_2 hij hjl) (by rw [hk]; omega) (by unfold cntL e1; rw [if_neg (by omega), if_neg (by omega)]; simp), hX, hY]
  have hsn := h.sz s (List.mem_of_getElem? hi)
  have htn := h.sz t (List.mem_of_getElem? hj)
  have hbs := bts_len s
  have hbt := bts_len t
  have hgi := gpow_lt i
  have hgj := gpow_lt j
  have hgx : gpow i ^^^ gpow j < 256 := xor_lt256 hgi hgj
  have hg0 : gpow i ^^^ gpow j ≠ 0 := fun h0 => by
    have := gpow_inj (i := i) (j := j) (by omega) (by omega) (by
      have e := congrArg (gpow i ^^^ ·) h0
      simp only [← Nat.xor_assoc, Nat.xor_self, Nat.zero_xor, Nat.xor_zero] at e
      exact e.symm)
    omega
  have hS : xorN (xorN (xorN P (bts s)) (bts t)) P = xorN (bts s) (bts t) := by
    refine List.ext_getElem (by simp [xorN]; omega) fun k h1 h2 => ?_
    simp only [xorN, List.getElem_zipWith]
    exact x3 _ _ _
  have hD : xorN (xorN (xorN (xorN Q (scN (gpow i) (bts s))) (scN (gpow j) (bts t))) Q) (scN (gpow j) (xorN (bts s) (bts t))) = scN (gpow i ^^^ gpow j) (bts s) := by
    refine List.ext_getElem (by simp [xorN, scN]; omega) fun k h1 h2 => ?_
    have hk1 : k < (bts s).length := by simpa [scN] using h2
    have ha := bts_lt _ (List.getElem_mem hk1)
    have hk2 : k < (bts t).length := by omega
    have hb := bts_lt _ (List.getElem_mem hk2)
    simp only [xorN, scN, List.getElem_zipWith, List.getElem_map]
    rw [gmul_lin ha hb, gmul_right hgi hgj]
    exact x5 _ _ _ _
  have hF : fstF (xorN (xorN P (bts s)) (bts t)) (xorN (xorN Q (scN (gpow i) (bts s))) (scN (gpow j) (bts t))) (i : Int) (j : Int) (strN P) (strN Q) = bts s := by
    unfold fstF
    rw [bts_strN b1, bts_strN b2, hS, m255_nat' (by omega), m255_nat' (by omega), hD, sc_inv hgx hg0 bts_lt]
  show (((leftG [(i : Int), (j : Int)] l).set (i : Int).toNat (strN (fstF _ _ (i : Int) (j : Int) _ _))).set (j : Int).toNat (strN (xorN (xorN _ (bts (strN P))) (fstF _ _ (i : Int) (j : Int) _ _))), (0 : Int)) = _
  rw [hF, bts_strN b1, hS, xor_xx (n := n) (by omega) (by omega), strN_bts, strN_bts, Int.toNat_natCast, Int.toNat_natCast, back2 hi hj]
theorem par_of {l : List ByteArray} (hg : groupB l = true) : ∃ (n : Nat) (P Q : List Nat), Par l n P Q ∧ mkR l = (strN P, strN Q, 0) := by
  obtain ⟨s0, h0, h1, h2, h3, h4, h5⟩ := groupB_size hg
  exact ⟨s0.size, _, _, ⟨h1, h2, h4, h5, rfl⟩, mkR_yes hg h0⟩
end Go.Proofs.Ytkdadaocbfbndaa
