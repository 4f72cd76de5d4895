/- All fills, the first of them, and how many there are, by either solved form. Plain laws. -/
import Derived.Test.YtfcdienphillnaaGreatCk14
namespace Go.Proofs.YtfcdienphillnaaGreat
set_option linter.unusedVariables false
set_option linter.unusedSimpArgs false

/-- the pivots' values behind chosen free bits -/
def compF (p : Nat → Nat) (V0 : Nat) (V : Nat) (e : Rw) : Nat := if dot e.m V0.testBit != e.r then V ||| 2 ^ p e.m else V
def comp (p : Nat → Nat) (rows : List Rw) (V0 : Nat) : Nat := rows.foldl (compF p V0) V0
theorem compF_far {p : Nat → Nat} {V0 V : Nat} {e : Rw} {k : Nat} (h : p e.m ≠ k) : (compF p V0 V e).testBit k = V.testBit k := by
  unfold compF; split
  · rw [Nat.testBit_or, Nat.testBit_two_pow]; simp [h]
  · rfl
theorem comp_far {p : Nat → Nat} (rows : List Rw) (V0 V : Nat) {k : Nat} (h : isP p rows k = false) : (rows.foldl (compF p V0) V).testBit k = V.testBit k := by
  induction rows generalizing V with
  | nil => rfl
  | cons e rows ih =>
    simp only [isP, List.any_cons, Bool.or_eq_false_iff, beq_eq_false_iff_ne] at h
    rw [List.foldl_cons, ih _ h.2, compF_far h.1]
theorem Red.pinj {p : Nat → Nat} {e : Rw} {l : List Rw} (h : Red p (e :: l)) : isP p l (p e.m) = false := by
  rw [Bool.eq_false_iff]; intro hp
  obtain ⟨a, ha, ea⟩ := isP_iff.1 hp
  have h1 := ((List.pairwise_cons.1 h.sep).1 a ha).1
  rw [← ea, h.on a (by simp [ha])] at h1; cases h1
theorem comp_on {p : Nat → Nat} {rows : List Rw} (h : Red p rows) (V0 V : Nat) (hV : ∀ k, isP p rows k = true → V.testBit k = false) {e : Rw} (he : e ∈ rows) : (rows.foldl (compF p V0) V).testBit (p e.m) = (dot e.m V0.testBit != e.r) := by
  induction rows generalizing V with
  | nil => cases he
  | cons a rows ih =>
    rw [List.foldl_cons]
    rcases List.mem_cons.1 he with rfl | he'
    · rw [comp_far rows _ _ h.pinj]
      have h0 := hV (p e.m) (isP_iff.2 ⟨e, by simp, rfl⟩)
      unfold compF; split
      · rename_i hc; rw [Nat.testBit_or, Nat.testBit_two_pow_self, hc]; simp
      · rename_i hc; rw [h0]; simpa using hc
    · refine ih h.tail _ (fun k hk => ?_) he'
      obtain ⟨b, hb, rfl⟩ := isP_iff.1 hk
      have hne : p a.m ≠ p b.m := by intro e2; have := h.pinj; rw [e2, isP_iff.2 ⟨b, hb, rfl⟩] at this; cases this
      rw [compF_far hne]; exact hV _ (isP_iff.2 ⟨b, by simp [hb], rfl⟩)
theorem comp_free {p : Nat → Nat} (rows : List Rw) (V0 : Nat) {k : Nat} (h : isP p rows k = false) : (comp p rows V0).testBit k = V0.testBit k := comp_far rows V0 V0 h
theorem comp_sol {p : Nat → Nat} {rows : List Rw} (h : Red p rows) {V0 : Nat} (hV : ∀ k, isP p rows k = true → V0.testBit k = false) : Sol rows (comp p rows V0).testBit := fun e he => by
  have h1 := comp_on h V0 V0 hV he
  have h2 : dot e.m (upd V0.testBit (p e.m) ((comp p rows V0).testBit (p e.m))) = dot e.m (comp p rows V0).testBit := dot_congr fun k hk hb => by
    by_cases ek : k = p e.m
    · rw [ek, upd_same]
    · rw [upd_far ek, comp_free rows V0 (h.only he hb ek)]
  rw [← h2, dot_upd _ _ _ (h.plt he), h.on e he, hV _ (isP_iff.2 ⟨e, he, rfl⟩)]
  unfold comp; rw [h1]
  cases dot e.m V0.testBit <;> cases e.r <;> rfl
/-- the number whose bits fr[i] are those of n -/
def selK (fr : List Nat) (n : Nat) : Nat → Nat
  | 0 => 0
  | i + 1 => if n.testBit i then selK fr n i ||| 2 ^ fr.getD i 0 else selK fr n i
def selV (fr : List Nat) (n : Nat) : Nat := selK fr n fr.length
theorem selK_bit {fr : List Nat} (hn : fr.Nodup) {n i : Nat} (hi : i ≤ fr.length) (k : Nat) : (selK fr n i).testBit k = true ↔ ∃ j, j < i ∧ fr.getD j 0 = k ∧ n.testBit j = true := by
  induction i with
  | zero => simp [selK]
  | succ i ih =>
    have := ih (by omega)
    unfold selK; split
    · rename_i h
      rw [Nat.testBit_or, Bool.or_eq_true, this, Nat.testBit_two_pow, decide_eq_true_eq]
      constructor
      · rintro (⟨j, hj, h1, h2⟩ | h1)
        · exact ⟨j, by omega, h1, h2⟩
        · exact ⟨i, by omega, h1, h⟩
      · rintro ⟨j, hj, h1, h2⟩
        by_cases e : j = i
        · subst e; exact .inr h1
        · exact .inl ⟨j, by omega, h1, h2⟩
    · rename_i h
      rw [this]
      constructor
      · rintro ⟨j, hj, h1, h2⟩; exact ⟨j, by omega, h1, h2⟩
      · rintro ⟨j, hj, h1, h2⟩
        by_cases e : j = i
        · subst e; exact absurd h2 h
        · exact ⟨j, by omega, h1, h2⟩
theorem selV_at {fr : List Nat} (hn : fr.Nodup) {n i : Nat} (hi : i < fr.length) : (selV fr n).testBit (fr.getD i 0) = n.testBit i := by
  rw [Bool.eq_iff_iff, selV, selK_bit hn (Nat.le_refl _)]
  constructor
  · rintro ⟨j, hj, h1, h2⟩; rw [← nd_getD hn hj hi h1]; exact h2
  · intro h; exact ⟨i, hi, rfl, h⟩
theorem selV_off {fr : List Nat} (hn : fr.Nodup) {n k : Nat} (hk : k ∉ fr) : (selV fr n).testBit k = false := by
  rw [Bool.eq_false_iff]; intro h
  obtain ⟨j, hj, rfl, _⟩ := (selK_bit hn (Nat.le_refl _) k).1 h
  exact hk (getD_mem hj)
theorem selV_zero (fr : List Nat) : selV fr 0 = 0 := by
  have : ∀ i, selK fr 0 i = 0 := fun i => by induction i with
    | zero => rfl
    | succ i ih => unfold selK; rw [if_neg (by simp), ih]
  exact this _
/-- the free bits, in some order -/
structure Fre (p : Nat → Nat) (rows : List Rw) (u : Nat) (fr : List Nat) : Prop where
  nd : fr.Nodup
  mem : ∀ k, k ∈ fr ↔ k < u ∧ isP p rows k = false
def freeU (p : Nat → Nat) (rows : List Rw) (u : Nat) : List Nat := (List.range u).filter fun k => !isP p rows k
theorem freU (p : Nat → Nat) (rows : List Rw) (u : Nat) : Fre p rows u (freeU p rows u) where
  nd := List.Pairwise.filter _ List.nodup_range
  mem k := by simp [freeU]
theorem freD (p : Nat → Nat) (rows : List Rw) (u : Nat) : Fre p rows u (freeU p rows u).reverse where
  nd := List.pairwise_reverse.2 ((freU p rows u).nd.imp fun h => Ne.symm h)
  mem k := by rw [List.mem_reverse]; exact (freU p rows u).mem k
theorem filter_one {P Q : Nat → Bool} {u q : Nat} (hq : q < u) (hP : P q = true) (hQ : ∀ k, Q k = (P k && !(q == k))) : ((List.range u).filter Q).length + 1 = ((List.range u).filter P).length := by
  induction u with
  | zero => omega
  | succ u ih =>
    rw [List.range_succ, List.filter_append, List.filter_append, List.length_append, List.length_append]
    by_cases e : q = u
    · subst e
      have h1 : (List.range q).filter Q = (List.range q).filter P := List.filter_congr fun k hk => by
        rw [hQ k, beq_eq_false_iff_ne.2 (by have := List.mem_range.1 hk; omega)]; simp
      have h2 : Q q = false := by rw [hQ q]; simp
      rw [h1]; simp [List.filter_cons, hP, h2]
    · have h2 : Q u = P u := by rw [hQ u, beq_eq_false_iff_ne.2 e]; simp
      have := ih (by omega)
      have h3 : ([u].filter Q).length = ([u].filter P).length := by simp [List.filter_cons, h2]
      omega
theorem free_len {p : Nat → Nat} {rows : List Rw} (h : Red p rows) {u : Nat} (hu : ∀ e ∈ rows, p e.m < u) : (freeU p rows u).length + rows.length = u := by
  induction rows with
  | nil =>
    have : freeU p [] u = List.range u := List.filter_eq_self.2 fun _ _ => rfl
    rw [this]; simp
  | cons e rows ih =>
    have h1 := ih h.tail (fun a ha => hu a (by simp [ha]))
    have h2 := filter_one (P := fun k => !isP p rows k) (Q := fun k => !isP p (e :: rows) k) (hu e (by simp)) (by rw [h.pinj]; rfl) (fun k => by simp [isP, Bool.and_comm])
    unfold freeU at h1 ⊢
    rw [List.length_cons]; omega
theorem red_plt {p : Nat → Nat} {rows : List Rw} (h : Red p rows) {u : Nat} (hu : ∀ e ∈ rows, e.m < 2 ^ u) : ∀ e ∈ rows, p e.m < u := fun e he => by
  apply Classical.byContradiction; intro hk
  have := h.on e he
  rw [Nat.testBit_lt_two_pow (Nat.lt_of_lt_of_le (hu e he) (Nat.pow_le_pow_right (by omega) (by omega)))] at this; cases this
theorem red_len_le {p : Nat → Nat} {rows : List Rw} (h : Red p rows) {u : Nat} (hu : ∀ e ∈ rows, e.m < 2 ^ u) : rows.length ≤ u := by
  have := free_len h (red_plt h hu); omega

/-- the fill with number n -/
def fillOf (l unk : List Nat) (p : Nat → Nat) (rows : List Rw) (fr : List Nat) (n : Nat) : List Nat := fillN l unk (comp p rows (selV fr n)).testBit
theorem Fre.piv0 {p : Nat → Nat} {rows : List Rw} {u : Nat} {fr : List Nat} (hf : Fre p rows u fr) (n : Nat) : ∀ k, isP p rows k = true → (selV fr n).testBit k = false := fun k hk =>
  selV_off hf.nd fun hm => by have := ((hf.mem k).1 hm).2; rw [hk] at this; cases this
theorem Fre.at {p : Nat → Nat} {rows : List Rw} {u : Nat} {fr : List Nat} (hf : Fre p rows u fr) {n i : Nat} (hi : i < fr.length) : (comp p rows (selV fr n)).testBit (fr.getD i 0) = n.testBit i := by
  rw [comp_free _ _ ((hf.mem _).1 (getD_mem hi)).2, selV_at hf.nd hi]
theorem Fre.sol {p : Nat → Nat} {rows : List Rw} {u : Nat} {fr : List Nat} (hf : Fre p rows u fr) (hr : Red p rows) (n : Nat) : Sol rows (comp p rows (selV fr n)).testBit := comp_sol hr (hf.piv0 n)
/-- the number whose bits a property tells -/
def numOf (f : Nat → Bool) : Nat → Nat
  | 0 => 0
  | i + 1 => if f i then numOf f i ||| 2 ^ i else numOf f i
theorem numOf_lt (f : Nat → Bool) (i : Nat) : numOf f i < 2 ^ i := by
  induction i with
  | zero => show 0 < 1; omega
  | succ i ih =>
    have h2 : 2 ^ i < 2 ^ (i + 1) := Nat.pow_lt_pow_right (by omega) (by omega)
    unfold numOf; split
    · exact Nat.or_lt_two_pow (Nat.lt_trans ih h2) h2
    · exact Nat.lt_trans ih h2
theorem numOf_bit (f : Nat → Bool) {i j : Nat} (h : j < i) : (numOf f i).testBit j = f j := by
  induction i with
  | zero => omega
  | succ i ih =>
    by_cases e : j = i
    · subst e
      have h0 : (numOf f j).testBit j = false := Nat.testBit_lt_two_pow (numOf_lt f j)
      unfold numOf; split
      · rename_i hc; rw [Nat.testBit_or, Nat.testBit_two_pow_self, hc]; simp
      · rename_i hc; rw [Bool.not_eq_true] at hc; rw [h0, hc]
    · unfold numOf; split
      · rw [Nat.testBit_or, ih (by omega), Nat.testBit_two_pow]; simp [Ne.symm e]
      · exact ih (by omega)
/-- solutions that have the same free bits fill alike -/
theorem sol_fill {l unk : List Nat} {p : Nat → Nat} {rows : List Rw} (hr : Red p rows) (hu : ∀ e ∈ rows, e.m < 2 ^ unk.length) {x y : Nat → Bool} (hx : Sol rows x) (hy : Sol rows y) (h : ∀ k, k < unk.length → isP p rows k = false → x k = y k) (h64 : unk.length ≤ 64) : ∀ k, k < unk.length → x k = y k := by
  have cut : ∀ z : Nat → Bool, Sol rows z → Sol rows (fun k => decide (k < unk.length) && z k) := fun z hz e he => by
    rw [← hz e he]
    exact dot_congr fun k hk hb => by
      have : k < unk.length := by
        apply Classical.byContradiction; intro hk2
        rw [Nat.testBit_lt_two_pow (Nat.lt_of_lt_of_le (hu e he) (Nat.pow_le_pow_right (by omega) (by omega)))] at hb; cases hb
      simp [this]
  have := hr.uniq (cut x hx) (cut y hy) fun k hk hp => by
    by_cases hk2 : k < unk.length
    · simp [hk2, h k hk2 hp]
    · simp [hk2]
  intro k hk
  have := this k (by omega)
  simpa [hk] using this
/-- the fills are all that agree with the data and have the check value -/
theorem mem_fills {l unk : List Nat} {crc : Nat} {p : Nat → Nat} {rows : List Rw} {fr : List Nat} (hl : ∀ y ∈ l, y < 256) (hn : unk.Nodup) (hub : ∀ b ∈ unk, b < 8 * l.length) (h64 : unk.length ≤ 64) (hc : crc < 65536) (hr : Red p rows) (hu : ∀ e ∈ rows, e.m < 2 ^ unk.length) (hs : ∀ x, Sol rows x ↔ Sol (rowsR l.length unk (crcN (clrN l unk) 65535 ^^^ crc)) x) (hf : Fre p rows unk.length fr) (F : List Nat) :
    (∃ n, n < 2 ^ fr.length ∧ fillOf l unk p rows fr n = F) ↔ (Agr l unk F ∧ crcN F 65535 = crc) := by
  constructor
  · rintro ⟨n, _, rfl⟩
    exact ⟨Agr.fill hl hub, (fill_sol hub h64 hc _).1 ((hs _).1 (hf.sol hr n))⟩
  · rintro ⟨ha, hcr⟩
    have e1 : F = fillN l unk (fun k => bitAt F (unk.getD k 0)) := ha.is hl hn hub fun k _ => rfl
    have hx : Sol rows (fun k => bitAt F (unk.getD k 0)) := (hs _).2 ((fill_sol hub h64 hc _).2 (by rw [← e1]; exact hcr))
    refine ⟨numOf (fun i => bitAt F (unk.getD (fr.getD i 0) 0)) fr.length, numOf_lt _ _, ?_⟩
    conv => rhs; rw [e1]
    refine fillN_congr (sol_fill (l := l) hr hu (hf.sol hr _) hx (fun k hk hp => ?_) h64)
    obtain ⟨i, hi, rfl⟩ := mem_getD ((hf.mem k).2 ⟨hk, hp⟩)
    rw [hf.at hi, numOf_bit _ hi]
/-- by the topmost leading bits, and the last free bit first: the numbers tell the order -/
theorem fill_less {l unk : List Nat} {rows : List Rw} (hl : ∀ y ∈ l, y < 256) (hn : unk.Pairwise (· < ·)) (hub : ∀ b ∈ unk, b < 8 * l.length) (hr : Red top rows) (hu : ∀ e ∈ rows, e.m < 2 ^ unk.length) {n m : Nat} (hnm : n < m) (hm : m < 2 ^ (freeU top rows unk.length).length) :
    ltL (fillOf l unk top rows (freeU top rows unk.length).reverse n) (fillOf l unk top rows (freeU top rows unk.length).reverse m) = true := by
  have hf := freD top rows unk.length
  have hdesc : (freeU top rows unk.length).reverse.Pairwise (· > ·) := List.pairwise_reverse.2 (List.Pairwise.filter _ List.pairwise_lt_range)
  have hlen : (freeU top rows unk.length).reverse.length = (freeU top rows unk.length).length := List.length_reverse
  generalize (freeU top rows unk.length).reverse = fr at *
  rw [← hlen] at hm
  -- the highest bit in which n and m differ
  obtain ⟨i, h0, h1, h2⟩ : ∃ i, n.testBit i = false ∧ m.testBit i = true ∧ ∀ j, i < j → n.testBit j = m.testBit j := by
    have hne : n ^^^ m ≠ 0 := fun e => by
      have h1 : n ^^^ m ^^^ m = n := by rw [Nat.xor_assoc, Nat.xor_self, Nat.xor_zero]
      rw [e, Nat.zero_xor] at h1; omega
    have hi := top_on _ hne
    have hj : ∀ j, top (n ^^^ m) < j → n.testBit j = m.testBit j := fun j hj => by
      have : (n ^^^ m).testBit j = false := by rw [Bool.eq_false_iff]; intro e; have := top_ge e; omega
      rw [Nat.testBit_xor] at this
      revert this; cases n.testBit j <;> cases m.testBit j <;> simp
    rw [Nat.testBit_xor] at hi
    cases hb : n.testBit (top (n ^^^ m))
    · rw [hb, Bool.false_xor] at hi; exact ⟨_, hb, hi, hj⟩
    · rw [hb, Bool.true_xor, Bool.not_eq_true'] at hi
      have := lt_of_bit hi hb (fun j h => (hj j h).symm); omega
  have hi : i < fr.length := by
    apply Classical.byContradiction; intro h
    rw [Nat.testBit_lt_two_pow (Nat.lt_of_lt_of_le hm (Nat.pow_le_pow_right (by omega) (by omega)))] at h1; cases h1
  have hq : fr.getD i 0 < unk.length := ((hf.mem _).1 (getD_mem hi)).1
  have hfree : ∀ k, k < fr.getD i 0 → isP top rows k = false → (comp top rows (selV fr n)).testBit k = (comp top rows (selV fr m)).testBit k := fun k hk hp => by
    obtain ⟨j, hj, rfl⟩ := mem_getD ((hf.mem k).2 ⟨by omega, hp⟩)
    rw [hf.at hj, hf.at hj]
    refine h2 j ?_
    apply Classical.byContradiction; intro hji
    by_cases e : j = i
    · subst e; omega
    · have := List.pairwise_iff_getElem.1 hdesc j i hj hi (by omega)
      rw [List.getD_eq_getElem?_getD, List.getElem?_eq_getElem hj, List.getD_eq_getElem?_getD, List.getElem?_eq_getElem hi] at hk
      simp at hk this; omega
  have hlow : ∀ k, k < fr.getD i 0 → (comp top rows (selV fr n)).testBit k = (comp top rows (selV fr m)).testBit k := fun k hk => by
    cases hp : isP top rows k with
    | false => exact hfree k hk hp
    | true =>
      obtain ⟨e, he, rfl⟩ := isP_iff.1 hp
      have e1 := hf.sol hr n e he
      have e2 := hf.sol hr m e he
      have e3 : dot e.m (upd (comp top rows (selV fr n)).testBit (top e.m) ((comp top rows (selV fr m)).testBit (top e.m))) = dot e.m (comp top rows (selV fr m)).testBit := dot_congr fun j hj hb => by
        by_cases ej : j = top e.m
        · rw [ej, upd_same]
        · have := top_ge hb
          rw [upd_far ej]; exact hfree j (by omega) (hr.only he hb ej)
      rw [dot_upd _ _ _ (hr.plt he), hr.on e he, e1, e2] at e3
      revert e3; cases (comp top rows (selV fr n)).testBit (top e.m) <;> cases (comp top rows (selV fr m)).testBit (top e.m) <;> cases e.r <;> simp
  have hnd : unk.Nodup := hn.imp fun h => Nat.ne_of_lt h
  have hun := hub _ (getD_mem hq)
  refine ltL_bit (c := unk.getD (fr.getD i 0) 0) (by rw [fillOf, fillOf, fillN_len, fillN_len]) (fillN_lt hl) (fillN_lt hl) (by rw [fillOf, fillN_len]; exact hun) (fun j hj => ?_) ?_ ?_
  · by_cases hmem : j ∈ unk
    · obtain ⟨k, hk, rfl⟩ := mem_getD hmem
      rw [fillOf, fillOf, fillN_on hnd hub hk, fillN_on hnd hub hk]
      refine hlow k ?_
      apply Classical.byContradiction; intro hkq
      by_cases e : fr.getD i 0 = k
      · rw [e] at hj; omega
      · have := List.pairwise_iff_getElem.1 hn (fr.getD i 0) k hq hk (by omega)
        rw [List.getD_eq_getElem?_getD (l := unk), List.getElem?_eq_getElem hk, List.getD_eq_getElem?_getD (l := unk), List.getElem?_eq_getElem hq] at hj
        simp at hj this; omega
    · rw [fillOf, fillOf, fillN_off hub hmem, fillN_off hub hmem]
  · rw [fillOf, fillN_on hnd hub hq, hf.at hi, h0]
  · rw [fillOf, fillN_on hnd hub hq, hf.at hi, h1]

/-- a further list of bytes among lists in order: where it comes to stand -/
def putK (L : List (List Nat)) (t : List Nat) : Nat → Nat
  | 0 => 0
  | k + 1 => if ltL t (L.getD k []) then putK L t k else k + 1
def putS (L : List (List Nat)) (t : List Nat) : List (List Nat) := L.take (putK L t L.length) ++ (t :: L.drop (putK L t L.length))
theorem putK_le (L : List (List Nat)) (t : List Nat) (k : Nat) : putK L t k ≤ k := by
  induction k with
  | zero => exact Nat.le_refl _
  | succ k ih => unfold putK; split <;> omega
theorem putK_hi {L : List (List Nat)} {t : List Nat} {k : Nat} : ∀ j, putK L t k ≤ j → j < k → ltL t (L.getD j []) = true := by
  induction k with
  | zero => intro j _ h; omega
  | succ k ih =>
    intro j h1 h2
    unfold putK at h1
    split at h1
    · rename_i hc
      by_cases e : j = k
      · subst e; exact hc
      · exact ih j h1 (by omega)
    · omega
theorem putK_lo {L : List (List Nat)} {t : List Nat} {k : Nat} (h : 0 < putK L t k) : ltL t (L.getD (putK L t k - 1) []) = false := by
  induction k with
  | zero => simp [putK] at h
  | succ k ih =>
    unfold putK at h ⊢
    split
    · rename_i hc; rw [if_pos hc] at h; exact ih h
    · rename_i hc; simpa using hc
theorem putS_mem {L : List (List Nat)} {t e : List Nat} : e ∈ putS L t ↔ e = t ∨ e ∈ L := by
  unfold putS
  rw [List.mem_append, List.mem_cons]
  constructor
  · rintro (h | h | h)
    · exact .inr (List.mem_of_mem_take h)
    · exact .inl h
    · exact .inr (List.mem_of_mem_drop h)
  · rintro (h | h)
    · exact .inr (.inl h)
    · rw [← List.take_append_drop (putK L t L.length) L, List.mem_append] at h
      exact h.elim .inl fun h => .inr (.inr h)
theorem putS_srt {L : List (List Nat)} {t : List Nat} (hL : L.Pairwise fun x y => ltL x y = true) (ht : t ∉ L) : (putS L t).Pairwise fun x y => ltL x y = true := by
  have hle := putK_le L t L.length
  have hhi := putK_hi (L := L) (t := t) (k := L.length)
  have hlo : ∀ h : 0 < putK L t L.length, ltL (L.getD (putK L t L.length - 1) []) t = true := fun h => by
    have h1 := putK_lo h
    cases h2 : ltL (L.getD (putK L t L.length - 1) []) t with
    | true => rfl
    | false =>
      have e := ltL_tri h1 h2
      refine absurd ?_ ht
      rw [e, List.getD_eq_getElem?_getD, List.getElem?_eq_getElem (by omega)]
      exact List.getElem_mem _
  unfold putS
  generalize putK L t L.length = k at *
  refine List.pairwise_append.2 ⟨hL.sublist (List.take_sublist _ _), List.pairwise_cons.2 ⟨fun y hy => ?_, hL.sublist (List.drop_sublist _ _)⟩, fun x hx y hy => ?_⟩
  · obtain ⟨j, hj, rfl⟩ := List.getElem_of_mem hy
    have hj' : k + j < L.length := by simp at hj; omega
    rw [List.getElem_drop]
    have := hhi (k + j) (by omega) hj'
    rwa [List.getD_eq_getElem?_getD, List.getElem?_eq_getElem hj'] at this
  · obtain ⟨i, hi, rfl⟩ := List.getElem_of_mem hx
    have hik : i < k := by simp at hi; omega
    rw [List.getElem_take]
    have hit : ltL L[i] t = true := by
      have h1 := hlo (by omega)
      rw [List.getD_eq_getElem?_getD, List.getElem?_eq_getElem (by omega)] at h1
      by_cases e : i = k - 1
      · subst e; exact h1
      · exact ltL_trans (List.pairwise_iff_getElem.1 hL i (k - 1) (by omega) (by omega) (by omega)) h1
    rcases List.mem_cons.1 hy with rfl | hy
    · exact hit
    · obtain ⟨j, hj, rfl⟩ := List.getElem_of_mem hy
      rw [List.getElem_drop]
      exact List.pairwise_iff_getElem.1 hL i (k + j) (by omega) (by simp at hj; omega) (by omega)
/-- all fills by the reference's order -/
def allS (l unk : List Nat) (rows : List Rw) : Nat → List (List Nat)
  | 0 => []
  | x + 1 => putS (allS l unk rows x) (fillOf l unk low rows (freeU low rows unk.length) x)
def allI (l unk : List Nat) (rows : List Rw) (n : Nat) : List (List Nat) := (List.range n).map (fillOf l unk top rows (freeU top rows unk.length).reverse)
theorem fillOf_inj {l unk : List Nat} {p : Nat → Nat} {rows : List Rw} {fr : List Nat} (hn : unk.Nodup) (hub : ∀ b ∈ unk, b < 8 * l.length) (hf : Fre p rows unk.length fr) {n m : Nat} (h1 : n < 2 ^ fr.length) (h2 : m < 2 ^ fr.length) (e : fillOf l unk p rows fr n = fillOf l unk p rows fr m) : n = m := by
  refine Nat.eq_of_testBit_eq fun i => ?_
  by_cases hi : i < fr.length
  · have hk := ((hf.mem _).1 (getD_mem hi)).1
    have a := fillN_on (x := (comp p rows (selV fr n)).testBit) hn hub hk
    have b := fillN_on (x := (comp p rows (selV fr m)).testBit) hn hub hk
    rw [hf.at hi] at a b
    unfold fillOf at e
    rw [← a, ← b, e]
  · have hp : 2 ^ fr.length ≤ 2 ^ i := Nat.pow_le_pow_right (by omega) (by omega)
    rw [Nat.testBit_lt_two_pow (Nat.lt_of_lt_of_le h1 hp), Nat.testBit_lt_two_pow (Nat.lt_of_lt_of_le h2 hp)]
theorem allS_mem (l unk : List Nat) (rows : List Rw) (n : Nat) (F : List Nat) : F ∈ allS l unk rows n ↔ ∃ x, x < n ∧ fillOf l unk low rows (freeU low rows unk.length) x = F := by
  induction n with
  | zero => simp [allS]
  | succ n ih =>
    rw [allS, putS_mem, ih]
    constructor
    · rintro (h | ⟨x, hx, h⟩)
      · exact ⟨n, by omega, h.symm⟩
      · exact ⟨x, by omega, h⟩
    · rintro ⟨x, hx, h⟩
      by_cases e : x = n
      · subst e; exact .inl h.symm
      · exact .inr ⟨x, by omega, h⟩
theorem allS_srt {l unk : List Nat} {rows : List Rw} (hn : unk.Nodup) (hub : ∀ b ∈ unk, b < 8 * l.length) {n : Nat} (h : n ≤ 2 ^ (freeU low rows unk.length).length) : (allS l unk rows n).Pairwise fun x y => ltL x y = true := by
  induction n with
  | zero => exact List.Pairwise.nil
  | succ n ih =>
    refine putS_srt (ih (by omega)) fun hm => ?_
    obtain ⟨x, hx, e⟩ := (allS_mem l unk rows n _).1 hm
    have := fillOf_inj hn hub (freU low rows unk.length) (by omega) (by omega) e
    omega
theorem allI_srt {l unk : List Nat} {rows : List Rw} (hl : ∀ y ∈ l, y < 256) (hn : unk.Pairwise (· < ·)) (hub : ∀ b ∈ unk, b < 8 * l.length) (hr : Red top rows) (hu : ∀ e ∈ rows, e.m < 2 ^ unk.length) {n : Nat} (h : n ≤ 2 ^ (freeU top rows unk.length).length) : (allI l unk rows n).Pairwise fun x y => ltL x y = true := by
  refine List.pairwise_map.2 ((List.pairwise_lt_range (n := n)).imp_of_mem fun ha hb hab => ?_)
  exact fill_less hl hn hub hr hu hab (by have := List.mem_range.1 hb; omega)
/-- both lists of all fills are one -/
theorem all_same {l unk : List Nat} {crc : Nat} {a b : List Rw} (hl : ∀ y ∈ l, y < 256) (hn : unk.Pairwise (· < ·)) (hub : ∀ b ∈ unk, b < 8 * l.length) (h64 : unk.length ≤ 64) (hc : crc < 65536)
    (ha : Red top a) (hb : Red low b) (hua : ∀ e ∈ a, e.m < 2 ^ unk.length) (hub2 : ∀ e ∈ b, e.m < 2 ^ unk.length) (hsa : ∀ x, Sol a x ↔ Sol (rowsR l.length unk (crcN (clrN l unk) 65535 ^^^ crc)) x) (hsb : ∀ x, Sol b x ↔ Sol (rowsR l.length unk (crcN (clrN l unk) 65535 ^^^ crc)) x) :
    allI l unk a (2 ^ (freeU top a unk.length).length) = allS l unk b (2 ^ (freeU low b unk.length).length) := by
  have hnd : unk.Nodup := hn.imp fun h => Nat.ne_of_lt h
  refine ltL_ext (allI_srt hl hn hub ha hua (Nat.le_refl _)) (allS_srt hnd hub (Nat.le_refl _)) fun F => ?_
  rw [allS_mem, mem_fills hl hnd hub h64 hc hb hub2 hsb (freU low b unk.length)]
  rw [← mem_fills hl hnd hub h64 hc ha hua hsa (freD top a unk.length), List.length_reverse]
  simp [allI]
/-- the reference's least fill: the free bits one by one -/
def leastR (rows : List Rw) : Nat → List Rw
  | 0 => rows
  | i + 1 => (redS (leastR rows i ++ [⟨2 ^ i, false⟩])).getD (leastR rows i)
theorem dot_pow {i : Nat} (hi : i < 64) (x : Nat → Bool) : dot (2 ^ i) x = x i := by
  have h1 : dot (2 ^ i) (upd (fun _ => false) i (x i)) = dot (2 ^ i) x := dot_congr fun k hk hb => by
    rw [Nat.testBit_two_pow, decide_eq_true_eq] at hb
    subst hb; rw [upd_same]
  rw [← h1, dot_upd _ _ _ hi, dot_false, Nat.testBit_two_pow_self]
  cases x i <;> rfl
theorem least_inv {a b : List Rw} {u : Nat} (h64 : u ≤ 64) (ha : Red top a) (hua : ∀ e ∈ a, e.m < 2 ^ u) (hb : Red low b) (hub : ∀ e ∈ b, e.m < 2 ^ u) (hs : ∀ x, Sol a x ↔ Sol b x) {x : Nat → Bool} (hx : Sol a x) (hf : ∀ k, k < u → isP top a k = false → x k = false) {i : Nat} (hi : i ≤ u) :
    Red low (leastR b i) ∧ (∀ e ∈ leastR b i, e.m < 2 ^ u) ∧ Sol (leastR b i) x ∧ (∀ y, Sol (leastR b i) y → Sol a y ∧ ∀ k, k < i → y k = x k) ∧ (leastR b i).length ≤ b.length + i := by
  induction i with
  | zero => exact ⟨hb, hub, (hs x).1 hx, fun y hy => ⟨(hs y).2 hy, fun k hk => by omega⟩, Nat.le_refl _⟩
  | succ i ih =>
    obtain ⟨h1, h2, h3, h4, h5⟩ := ih (by omega)
    unfold leastR
    generalize leastR b i = c at *
    have hlt : ∀ e ∈ c ++ [(⟨2 ^ i, false⟩ : Rw)], e.m < 2 ^ u := fun e he => by
      rcases List.mem_append.1 he with he | he
      · exact h2 e he
      · obtain rfl : e = ⟨2 ^ i, false⟩ := by simpa using he
        exact Nat.pow_lt_pow_right (by omega) (by omega)
    have hsat : ∀ y, Sol (c ++ [(⟨2 ^ i, false⟩ : Rw)]) y ↔ Sol c y ∧ y i = false := fun y => by
      rw [Sol.app, Sol.cons]
      simp only [dot_pow (show i < 64 by omega)]
      exact ⟨fun ⟨p, q, _⟩ => ⟨p, q⟩, fun ⟨p, q⟩ => ⟨p, q, Sol.nil⟩⟩
    -- what i's bit is in every solution, if i leads a row
    have hpiv : isP top a i = true → ∀ y, Sol c y → y i = x i := fun hp y hy => by
      obtain ⟨e, he, rfl⟩ := isP_iff.1 hp
      obtain ⟨hya, hyl⟩ := h4 y hy
      have e1 := hx e he
      have e2 := hya e he
      have e3 : dot e.m (upd x (top e.m) (y (top e.m))) = dot e.m y := dot_congr fun j hj hbj => by
        by_cases ej : j = top e.m
        · rw [ej, upd_same]
        · have := top_ge hbj
          rw [upd_far ej]; exact (hyl j (by omega)).symm
      rw [dot_upd _ _ _ (ha.plt he), ha.on e he, e1, e2] at e3
      revert e3; cases x (top e.m) <;> cases y (top e.m) <;> cases e.r <;> simp
    generalize hR : redS (c ++ [(⟨2 ^ i, false⟩ : Rw)]) = R
    have hok := redS_ok h64 hlt hR
    clear hR
    cases R with
    | none =>
      have hxi : x i = true := by
        rw [← Bool.not_eq_false]; intro h; exact hok x ((hsat x).2 ⟨h3, h⟩)
      have hp : isP top a i = true := by
        rw [← Bool.not_eq_false]; intro h; rw [hf i (by omega) h] at hxi; cases hxi
      exact ⟨h1, h2, h3, fun y hy => ⟨(h4 y hy).1, fun k hk => by
        by_cases e : k = i
        · rw [e]; exact hpiv hp y hy
        · exact (h4 y hy).2 k (by omega)⟩, by simp; omega⟩
    | some d =>
      obtain ⟨k1, _, k3, k4, k5⟩ := hok
      have hxi : x i = false := by
        cases hp : isP top a i with
        | false => exact hf i (by omega) hp
        | true =>
          obtain ⟨y, hy, _⟩ := k1.sol (fun _ => false)
          have := (hsat y).1 ((k4 y).1 hy)
          rw [← hpiv hp y this.1]; exact this.2
      refine ⟨k1, k3, (k4 x).2 ((hsat x).2 ⟨h3, hxi⟩), fun y hy => ?_, by simp at k5 ⊢; omega⟩
      have hyc := (hsat y).1 ((k4 y).1 hy)
      exact ⟨(h4 y hyc.1).1, fun k hk => by
        by_cases e : k = i
        · rw [e, hyc.2, hxi]
        · exact (h4 y hyc.1).2 k (by omega)⟩
/-- both first fills are one -/
theorem least_same {l unk : List Nat} {a b : List Rw} (h64 : unk.length ≤ 64) (ha : Red top a) (hb : Red low b) (hua : ∀ e ∈ a, e.m < 2 ^ unk.length) (hub : ∀ e ∈ b, e.m < 2 ^ unk.length) (hs : ∀ x, Sol a x ↔ Sol b x) :
    fillOf l unk top a (freeU top a unk.length).reverse 0 = fillN l unk (comp low (leastR b unk.length) 0).testBit := by
  have hf := freD top a unk.length
  have hx := hf.sol ha 0
  obtain ⟨k1, k2, k3, k4, _⟩ := least_inv h64 ha hua hb hub hs hx (fun k hk hp => by rw [comp_free _ _ hp, selV_zero, Nat.zero_testBit]) (Nat.le_refl unk.length)
  have hy := comp_sol k1 (V0 := 0) (fun k _ => Nat.zero_testBit k)
  exact fillN_congr fun k hk => ((k4 _ hy).2 k hk).symm
/-- if there is one fill alone -/
theorem only_same {l unk : List Nat} {a b : List Rw} (h64 : unk.length ≤ 64) (ha : Red top a) (hb : Red low b) (hua : ∀ e ∈ a, e.m < 2 ^ unk.length) (hub : ∀ e ∈ b, e.m < 2 ^ unk.length) (hs : ∀ x, Sol a x ↔ Sol b x) (hlen : a.length = unk.length) :
    fillOf l unk top a (freeU top a unk.length).reverse 0 = fillN l unk (comp low b 0).testBit := by
  have hf := freD top a unk.length
  have hy := (hs _).2 (comp_sol hb (V0 := 0) (fun k _ => Nat.zero_testBit k))
  have h0 : freeU top a unk.length = [] := List.eq_nil_of_length_eq_zero (by have := free_len ha (red_plt ha hua); omega)
  exact fillN_congr (sol_fill (l := l) ha hua (hf.sol ha 0) hy (fun k hk hp => by have := (freU top a unk.length).mem k |>.2 ⟨hk, hp⟩; rw [h0] at this; cases this) h64)
end Go.Proofs.YtfcdienphillnaaGreat
