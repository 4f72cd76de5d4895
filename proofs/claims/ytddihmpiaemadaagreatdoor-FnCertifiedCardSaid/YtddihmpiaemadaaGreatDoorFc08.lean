/- Bytes whose unknown bits are filled: bits of a list of bytes, the rows of the equations, and what a solution fills. Plain laws. All fills, the first of them, and how many there are, by either solved form. Plain laws. -/
import Derived.Test.YtddihmpiaemadaaGreatDoorFc07
import Derived.Test.YtddihmpiaemadaaGreatDoorFc06
namespace Go.Proofs.YtddihmpiaemadaaGreatDoor
set_option linter.unusedVariables false
set_option linter.unusedSimpArgs false

def bitAt (l : List Nat) (b : Nat) : Bool := (l.getD (b / 8) 0).testBit (7 - b % 8)
theorem pow7 : ∀ r : Fin 8, ∀ s : Fin 8, (128 / 2 ^ r.val).testBit (7 - s.val) = (r == s) := by decide
theorem getD_set {l : List Nat} {i j x : Nat} (hi : i < l.length) : (l.set i x).getD j 0 = if i = j then x else l.getD j 0 := by
  simp only [List.getD_eq_getElem?_getD, List.getElem?_set]
  by_cases e : i = j
  · rw [if_pos e, if_pos e, if_pos (by omega)]; rfl
  · rw [if_neg e, if_neg e]
theorem bitAt_flip {l : List Nat} {b : Nat} (c : Nat) (hb : b < 8 * l.length) : bitAt (flipN l b) c = (bitAt l c ^^ (b == c)) := by
  unfold bitAt flipN
  rw [getD_set (by omega)]
  by_cases e : b / 8 = c / 8
  · rw [if_pos e, e, Nat.testBit_xor]
    congr 1
    have := pow7 ⟨b % 8, Nat.mod_lt _ (by omega)⟩ ⟨c % 8, Nat.mod_lt _ (by omega)⟩
    simp only at this
    rw [this, Bool.eq_iff_iff]
    simp only [beq_iff_eq, Fin.mk.injEq]
    omega
  · rw [if_neg e]
    have : (b == c) = false := by rw [beq_eq_false_iff_ne]; intro e2; rw [e2] at e; exact e rfl
    rw [this, Bool.xor_false]
theorem bits_ext {a b : List Nat} (hl : a.length = b.length) (ha : ∀ x ∈ a, x < 256) (hb : ∀ x ∈ b, x < 256) (h : ∀ c, c < 8 * a.length → bitAt a c = bitAt b c) : a = b := by
  apply List.ext_getElem hl
  intro i h1 h2
  refine Nat.eq_of_testBit_eq fun j => ?_
  by_cases hj : j < 8
  · have := h (8 * i + (7 - j)) (by omega)
    unfold bitAt at this
    rw [show (8 * i + (7 - j)) / 8 = i by omega, show 7 - (8 * i + (7 - j)) % 8 = j by omega] at this
    rw [List.getD_eq_getElem?_getD, List.getD_eq_getElem?_getD, List.getElem?_eq_getElem h1, List.getElem?_eq_getElem h2] at this
    exact this
  · have p : 2 ^ 8 ≤ 2 ^ j := Nat.pow_le_pow_right (by omega) (by omega)
    rw [Nat.testBit_lt_two_pow (Nat.lt_of_lt_of_le (ha _ (List.getElem_mem h1)) p), Nat.testBit_lt_two_pow (Nat.lt_of_lt_of_le (hb _ (List.getElem_mem h2)) p)]
theorem ofNat_xor (x y : Nat) : UInt8.ofNat (x ^^^ y) = UInt8.ofNat x ^^^ UInt8.ofNat y := by
  apply UInt8.toNat_inj.1
  rw [UInt8.toNat_xor]
  simp only [UInt8.toNat_ofNat']
  exact Nat.xor_mod_two_pow
/-- one changed bit changes the check value by its effect -/
theorem flip_crc {l : List Nat} {b v : Nat} (hb : b < 8 * l.length) (hv : v < 65536) : crcN (flipN l b) v = crcN l v ^^^ effN l.length b := by
  unfold effN crcN
  rw [← crcL_xor _ _ _ _ (by simp [flipN_len]) hv (by omega), Nat.xor_zero]
  congr 1
  apply List.ext_getElem (by simp [flipN_len])
  intro i h1 h2
  simp only [List.getElem_map, List.getElem_zipWith, ← ofNat_xor]
  congr 1
  simp only [flipN, List.getElem_set, List.getElem_replicate]
  have hi : i < l.length := by simpa [flipN_len] using h1
  split
  · rename_i e
    subst e
    have hr : b / 8 < l.length := by omega
    simp [List.getD_eq_getElem?_getD, List.getElem?_eq_getElem hi, List.getElem?_replicate, hr]
  · simp

def clr1 (l : List Nat) (b : Nat) : List Nat := if bitAt l b then flipN l b else l
def clrN (l : List Nat) (unk : List Nat) : List Nat := unk.foldl clr1 l
theorem clr1_len (l : List Nat) (b : Nat) : (clr1 l b).length = l.length := by unfold clr1; split <;> simp [flipN_len]
theorem clr1_lt {l : List Nat} {b : Nat} (h : ∀ x ∈ l, x < 256) : ∀ x ∈ clr1 l b, x < 256 := by unfold clr1; split; exact flipN_lt h; exact h
theorem clr1_bit {l : List Nat} {b : Nat} (c : Nat) (hb : b < 8 * l.length) : bitAt (clr1 l b) c = (bitAt l c && !(b == c)) := by
  unfold clr1; split
  · rename_i h
    rw [bitAt_flip c hb]
    by_cases e : b = c
    · subst e; rw [h]; simp
    · rw [beq_eq_false_iff_ne.2 e]; simp
  · rename_i h
    by_cases e : b = c
    · subst e; rw [Bool.not_eq_true] at h; rw [h]; simp
    · rw [beq_eq_false_iff_ne.2 e]; simp
theorem clrN_snoc (l unk : List Nat) (b : Nat) : clrN l (unk ++ [b]) = clr1 (clrN l unk) b := by simp [clrN, List.foldl_append]
theorem clrN_len (l unk : List Nat) : (clrN l unk).length = l.length := by
  unfold clrN
  induction unk generalizing l with
  | nil => rfl
  | cons b unk ih => simp only [List.foldl_cons]; rw [ih, clr1_len]
theorem clrN_lt {l unk : List Nat} (h : ∀ x ∈ l, x < 256) : ∀ x ∈ clrN l unk, x < 256 := by
  unfold clrN
  induction unk generalizing l with
  | nil => exact h
  | cons b unk ih => exact ih (clr1_lt h)
theorem clrN_bit {l unk : List Nat} (hu : ∀ b ∈ unk, b < 8 * l.length) (c : Nat) : bitAt (clrN l unk) c = (bitAt l c && !(unk.any (· == c))) := by
  induction unk generalizing l with
  | nil => simp [clrN]
  | cons b unk ih =>
    have := ih (l := clr1 l b) (by intro a ha; rw [clr1_len]; exact hu a (by simp [ha]))
    rw [show clrN l (b :: unk) = clrN (clr1 l b) unk from rfl, this, clr1_bit c (hu b (by simp))]
    simp [Bool.and_assoc]
/-- the first k unknown bits filled -/
def fillK (l unk : List Nat) (x : Nat → Bool) : Nat → List Nat
  | 0 => l
  | k + 1 => if x k then flipN (fillK l unk x k) (unk.getD k 0) else fillK l unk x k
def fillN (l unk : List Nat) (x : Nat → Bool) : List Nat := fillK (clrN l unk) unk x unk.length
theorem fillK_len (l unk : List Nat) (x : Nat → Bool) (k : Nat) : (fillK l unk x k).length = l.length := by
  induction k with
  | zero => rfl
  | succ k ih => unfold fillK; split <;> simp [flipN_len, ih]
theorem fillK_lt {l unk : List Nat} {x : Nat → Bool} (h : ∀ y ∈ l, y < 256) (k : Nat) : ∀ y ∈ fillK l unk x k, y < 256 := by
  induction k with
  | zero => exact h
  | succ k ih => unfold fillK; split; exact flipN_lt ih; exact ih
theorem fillN_len (l unk : List Nat) (x : Nat → Bool) : (fillN l unk x).length = l.length := by rw [fillN, fillK_len, clrN_len]
theorem fillN_lt {l unk : List Nat} {x : Nat → Bool} (h : ∀ y ∈ l, y < 256) : ∀ y ∈ fillN l unk x, y < 256 := fillK_lt (clrN_lt h) _
theorem getD_mem {l : List Nat} {k : Nat} (h : k < l.length) : l.getD k 0 ∈ l := by
  rw [List.getD_eq_getElem?_getD, List.getElem?_eq_getElem h]; exact List.getElem_mem h
theorem fillK_off {l unk : List Nat} {x : Nat → Bool} (hu : ∀ b ∈ unk, b < 8 * l.length) {c k : Nat} (hk : k ≤ unk.length) (hc : ∀ j, j < k → unk.getD j 0 ≠ c) : bitAt (fillK l unk x k) c = bitAt l c := by
  induction k with
  | zero => rfl
  | succ k ih =>
    have := ih (by omega) (fun j hj => hc j (by omega))
    unfold fillK; split
    · rw [bitAt_flip c (by rw [fillK_len]; exact hu _ (getD_mem (by omega))), this, beq_eq_false_iff_ne.2 (hc k (by omega)), Bool.xor_false]
    · exact this
theorem nd_getD {unk : List Nat} (hn : unk.Nodup) {i j : Nat} (hi : i < unk.length) (hj : j < unk.length) (e : unk.getD i 0 = unk.getD j 0) : i = j := by
  rw [List.getD_eq_getElem?_getD, List.getD_eq_getElem?_getD, List.getElem?_eq_getElem hi, List.getElem?_eq_getElem hj] at e
  exact (List.getElem_inj hn).1 e
theorem fillK_on {l unk : List Nat} {x : Nat → Bool} (hn : unk.Nodup) (hu : ∀ b ∈ unk, b < 8 * l.length) {i k : Nat} (hk : k ≤ unk.length) (hi : i < k) : bitAt (fillK l unk x k) (unk.getD i 0) = (bitAt l (unk.getD i 0) ^^ x i) := by
  induction k with
  | zero => omega
  | succ k ih =>
    by_cases e : i = k
    · subst e
      have h0 := fillK_off (x := x) hu (c := unk.getD i 0) (k := i) (by omega) (fun j hj e2 => by have := nd_getD hn (by omega) (by omega) e2; omega)
      unfold fillK
      cases hx : x i
      · rw [if_neg (by simp), h0, Bool.xor_false]
      · rw [if_pos rfl, bitAt_flip _ (by rw [fillK_len]; exact hu _ (getD_mem (by omega))), h0, beq_self_eq_true]
    · have h0 := ih (by omega) (by omega)
      unfold fillK; split
      · have hne : unk.getD k 0 ≠ unk.getD i 0 := fun e2 => e (nd_getD hn (by omega) (by omega) e2).symm
        rw [bitAt_flip _ (by rw [fillK_len]; exact hu _ (getD_mem (by omega))), h0, beq_eq_false_iff_ne.2 hne, Bool.xor_false]
      · exact h0
theorem fillN_on {l unk : List Nat} {x : Nat → Bool} (hn : unk.Nodup) (hu : ∀ b ∈ unk, b < 8 * l.length) {i : Nat} (hi : i < unk.length) : bitAt (fillN l unk x) (unk.getD i 0) = x i := by
  have hu' : ∀ b ∈ unk, b < 8 * (clrN l unk).length := by rw [clrN_len]; exact hu
  rw [fillN, fillK_on hn hu' (Nat.le_refl _) hi, clrN_bit hu]
  have : unk.any (· == unk.getD i 0) = true := List.any_eq_true.2 ⟨_, getD_mem hi, by simp⟩
  rw [this]; simp
theorem fillN_off {l unk : List Nat} {x : Nat → Bool} (hu : ∀ b ∈ unk, b < 8 * l.length) {c : Nat} (hc : c ∉ unk) : bitAt (fillN l unk x) c = bitAt l c := by
  have hu' : ∀ b ∈ unk, b < 8 * (clrN l unk).length := by rw [clrN_len]; exact hu
  rw [fillN, fillK_off hu' (Nat.le_refl _) (fun j hj e => hc (by rw [← e]; exact getD_mem hj)), clrN_bit hu]
  have : unk.any (· == c) = false := List.any_eq_false.2 fun a ha => by simp; intro e; exact hc (e ▸ ha)
  rw [this]; simp
theorem fillN_congr {l unk : List Nat} {x y : Nat → Bool} (h : ∀ k, k < unk.length → x k = y k) : fillN l unk x = fillN l unk y := by
  have : ∀ k, k ≤ unk.length → fillK (clrN l unk) unk x k = fillK (clrN l unk) unk y k := by
    intro k
    induction k with
    | zero => intro _; rfl
    | succ k ih => intro hk; unfold fillK; rw [ih (by omega), h k (by omega)]
  exact this _ (Nat.le_refl _)
/-- what agrees with the data in all known bits -/
structure Agr (l unk F : List Nat) : Prop where
  len : F.length = l.length
  lt : ∀ x ∈ F, x < 256
  off : ∀ c, c < 8 * l.length → c ∉ unk → bitAt F c = bitAt l c
theorem Agr.fill {l unk : List Nat} {x : Nat → Bool} (hl : ∀ y ∈ l, y < 256) (hu : ∀ b ∈ unk, b < 8 * l.length) : Agr l unk (fillN l unk x) :=
  ⟨fillN_len _ _ _, fillN_lt hl, fun c _ hc => fillN_off hu hc⟩
theorem mem_getD {l : List Nat} {a : Nat} (h : a ∈ l) : ∃ k, k < l.length ∧ l.getD k 0 = a := by
  obtain ⟨k, hk, e⟩ := List.getElem_of_mem h
  exact ⟨k, hk, by rw [List.getD_eq_getElem?_getD, List.getElem?_eq_getElem hk]; exact e⟩
theorem Agr.is {l unk F : List Nat} (h : Agr l unk F) (hl : ∀ y ∈ l, y < 256) (hn : unk.Nodup) (hu : ∀ b ∈ unk, b < 8 * l.length) {x : Nat → Bool} (hx : ∀ k, k < unk.length → bitAt F (unk.getD k 0) = x k) : F = fillN l unk x := by
  refine bits_ext (by rw [h.len, fillN_len]) h.lt (fillN_lt hl) fun c hc => ?_
  rw [h.len] at hc
  by_cases hm : c ∈ unk
  · obtain ⟨k, hk, rfl⟩ := mem_getD hm
    rw [hx k hk, fillN_on hn hu hk]
  · rw [h.off c hc hm, fillN_off hu hm]
theorem Agr.self {l unk : List Nat} (hl : ∀ y ∈ l, y < 256) : Agr l unk l := ⟨rfl, hl, fun _ _ _ => rfl⟩

/-- what the chosen bits add to the check value -/
def effX (n : Nat) (unk : List Nat) (x : Nat → Bool) : Nat → Nat
  | 0 => 0
  | k + 1 => if x k then effX n unk x k ^^^ effN n (unk.getD k 0) else effX n unk x k
theorem effX_lt (n : Nat) (unk : List Nat) (x : Nat → Bool) (k : Nat) : effX n unk x k < 65536 := by
  induction k with
  | zero => show 0 < 65536; omega
  | succ k ih => unfold effX; split; exact Nat.xor_lt_two_pow (n := 16) ih (effN_lt _ _); exact ih
theorem fillK_crc {l unk : List Nat} {x : Nat → Bool} (hu : ∀ b ∈ unk, b < 8 * l.length) {v : Nat} (hv : v < 65536) {k : Nat} (hk : k ≤ unk.length) : crcN (fillK l unk x k) v = crcN l v ^^^ effX l.length unk x k := by
  induction k with
  | zero => simp [fillK, effX]
  | succ k ih =>
    have := ih (by omega)
    unfold fillK effX; split
    · rw [flip_crc (by rw [fillK_len]; exact hu _ (getD_mem (by omega))) hv, this, fillK_len, Nat.xor_assoc]
    · exact this
theorem fillN_crc {l unk : List Nat} {x : Nat → Bool} (hu : ∀ b ∈ unk, b < 8 * l.length) {v : Nat} (hv : v < 65536) : crcN (fillN l unk x) v = crcN (clrN l unk) v ^^^ effX l.length unk x unk.length := by
  have hu' : ∀ b ∈ unk, b < 8 * (clrN l unk).length := by rw [clrN_len]; exact hu
  rw [fillN, fillK_crc hu' hv (Nat.le_refl _), clrN_len]
/-- the mask of equation i over the first K unknown bits -/
def maskR (n : Nat) (unk : List Nat) (i : Nat) : Nat → Nat
  | 0 => 0
  | k + 1 => if (effN n (unk.getD k 0)).testBit (15 - i) then maskR n unk i k ||| 2 ^ k else maskR n unk i k
theorem maskR_bit (n : Nat) (unk : List Nat) (i K j : Nat) : (maskR n unk i K).testBit j = (decide (j < K) && (effN n (unk.getD j 0)).testBit (15 - i)) := by
  induction K with
  | zero => simp [maskR]
  | succ K ih =>
    unfold maskR
    by_cases e : j = K
    · subst e
      split
      · rename_i h; rw [Nat.testBit_or, ih, Nat.testBit_two_pow_self, h]; simp
      · rename_i h; rw [ih]; simp at h ⊢; exact h
    · have h1 : decide (j < K + 1) = decide (j < K) := by apply decide_eq_decide.2; omega
      rw [h1]
      split
      · rw [Nat.testBit_or, ih, Nat.testBit_two_pow]; simp [Ne.symm e]
      · rw [ih]
theorem maskR_lt (n : Nat) (unk : List Nat) (i K : Nat) : maskR n unk i K < 2 ^ K := by
  induction K with
  | zero => show 0 < 1; omega
  | succ K ih =>
    have h2 : 2 ^ K < 2 ^ (K + 1) := Nat.pow_lt_pow_right (by omega) (by omega)
    unfold maskR; split
    · exact Nat.or_lt_two_pow (Nat.lt_trans ih h2) h2
    · exact Nat.lt_trans ih h2
theorem mask_dotN (n : Nat) (unk : List Nat) (x : Nat → Bool) (i K : Nat) {L : Nat} (hL : K ≤ L) : dotN K (maskR n unk i L) x = (effX n unk x K).testBit (15 - i) := by
  induction K with
  | zero => simp [dotN, effX]
  | succ K ih =>
    simp only [dotN]
    rw [ih (by omega), maskR_bit, show decide (K < L) = true from decide_eq_true (by omega), Bool.true_and]
    have e : effX n unk x (K + 1) = if x K then effX n unk x K ^^^ effN n (unk.getD K 0) else effX n unk x K := rfl
    rw [e]
    cases h : x K
    · rw [Bool.and_false, Bool.xor_false]; rfl
    · rw [Bool.and_true]; exact (Nat.testBit_xor _ _ _).symm
theorem mask_dot (n : Nat) (unk : List Nat) (x : Nat → Bool) (i : Nat) {K : Nat} (hK : K ≤ 64) : dot (maskR n unk i K) x = (effX n unk x K).testBit (15 - i) :=
  (dotN_le hK (maskR_lt n unk i K)).trans (mask_dotN n unk x i K (Nat.le_refl _))
def rowsR (n : Nat) (unk : List Nat) (rest : Nat) : List Rw := (List.range 16).map fun i => ⟨maskR n unk i unk.length, rest.testBit (15 - i)⟩
theorem rowsR_len (n : Nat) (unk : List Nat) (rest : Nat) : (rowsR n unk rest).length = 16 := by simp [rowsR]
theorem rowsR_lt (n : Nat) (unk : List Nat) (rest : Nat) : ∀ e ∈ rowsR n unk rest, e.m < 2 ^ unk.length := by
  intro e he
  obtain ⟨i, _, rfl⟩ := List.mem_map.1 he
  exact maskR_lt _ _ _ _
theorem rowsR_sol {n : Nat} {unk : List Nat} {rest : Nat} (hu : unk.length ≤ 64) (hr : rest < 65536) (x : Nat → Bool) : Sol (rowsR n unk rest) x ↔ effX n unk x unk.length = rest := by
  constructor
  · intro h
    refine Nat.eq_of_testBit_eq fun j => ?_
    by_cases hj : j < 16
    · have := h ⟨maskR n unk (15 - j) unk.length, rest.testBit (15 - (15 - j))⟩ (List.mem_map.2 ⟨15 - j, by simp; omega, rfl⟩)
      simp only at this
      rw [mask_dot _ _ _ _ hu, show 15 - (15 - j) = j by omega] at this
      exact this
    · have p : 2 ^ 16 ≤ 2 ^ j := Nat.pow_le_pow_right (by omega) (by omega)
      rw [Nat.testBit_lt_two_pow (Nat.lt_of_lt_of_le (effX_lt n unk x _) p), Nat.testBit_lt_two_pow (Nat.lt_of_lt_of_le hr p)]
  · intro h e he
    obtain ⟨i, _, rfl⟩ := List.mem_map.1 he
    simp only
    rw [mask_dot _ _ _ _ hu, h]
theorem xor_swap {a b c : Nat} : a ^^^ b = c ↔ b = a ^^^ c := by
  constructor
  · rintro rfl; rw [← Nat.xor_assoc, Nat.xor_self, Nat.zero_xor]
  · rintro rfl; rw [← Nat.xor_assoc, Nat.xor_self, Nat.zero_xor]
/-- a solution is what gives the check value -/
theorem fill_sol {l unk : List Nat} {crc : Nat} (hu : ∀ b ∈ unk, b < 8 * l.length) (hK : unk.length ≤ 64) (hc : crc < 65536) (x : Nat → Bool) : Sol (rowsR l.length unk (crcN (clrN l unk) 65535 ^^^ crc)) x ↔ crcN (fillN l unk x) 65535 = crc := by
  rw [rowsR_sol hK (Nat.xor_lt_two_pow (n := 16) (crcN_lt _ _ (by omega)) hc), fillN_crc hu (by omega)]
  exact xor_swap.symm

/-- the order of bytes -/
def ltL : List Nat → List Nat → Bool
  | _, [] => false
  | [], _ :: _ => true
  | a :: l, b :: m => decide (a < b) || (a == b && ltL l m)
end Go.Proofs.YtddihmpiaemadaaGreatDoor
namespace Go.Proofs.YtddihmpiaemadaaGreatDoor
set_option linter.unusedVariables false
set_option linter.unusedSimpArgs false

/-- the pivots' values behind chosen free bits -/
def compF (p : Nat → Nat) (V0 : Nat) (V : Nat) (e : Rw) : Nat := if dot e.m V0.testBit != e.r then V ||| 2 ^ p e.m else V
def comp (p : Nat → Nat) (rows : List Rw) (V0 : Nat) : Nat := rows.foldl (compF p V0) V0
theorem compF_far {p : Nat → Nat} {V0 V : Nat} {e : Rw} {k : Nat} (h : p e.m ≠ k) : (compF p V0 V e).testBit k = V.testBit k := by
  unfold compF; split
  · rw [Nat.testBit_or, Nat.testBit_two_pow]; simp [h]
  · rfl
theorem comp_far {p : Nat → Nat} (rows : List Rw) (V0 V : Nat) {k : Nat} (h : isP p rows k = false) : (rows.foldl (compF p V0) V).testBit k = V.testBit k := by
  induction rows generalizing V with
  | nil => rfl
  | cons e rows ih =>
    simp only [isP, List.any_cons, Bool.or_eq_false_iff, beq_eq_false_iff_ne] at h
    rw [List.foldl_cons, ih _ h.2, compF_far h.1]
theorem Red.pinj {p : Nat → Nat} {e : Rw} {l : List Rw} (h : Red p (e :: l)) : isP p l (p e.m) = false := by
  rw [Bool.eq_false_iff]; intro hp
  obtain ⟨a, ha, ea⟩ := isP_iff.1 hp
  have h1 := ((List.pairwise_cons.1 h.sep).1 a ha).1
  rw [← ea, h.on a (by simp [ha])] at h1; cases h1
theorem comp_on {p : Nat → Nat} {rows : List Rw} (h : Red p rows) (V0 V : Nat) (hV : ∀ k, isP p rows k = true → V.testBit k = false) {e : Rw} (he : e ∈ rows) : (rows.foldl (compF p V0) V).testBit (p e.m) = (dot e.m V0.testBit != e.r) := by
  induction rows generalizing V with
  | nil => cases he
  | cons a rows ih =>
    rw [List.foldl_cons]
    rcases List.mem_cons.1 he with rfl | he'
    · rw [comp_far rows _ _ h.pinj]
      have h0 := hV (p e.m) (isP_iff.2 ⟨e, by simp, rfl⟩)
      unfold compF; split
      · rename_i hc; rw [Nat.testBit_or, Nat.testBit_two_pow_self, hc]; simp
      · rename_i hc; rw [h0]; simpa using hc
    · refine ih h.tail _ (fun k hk => ?_) he'
      obtain ⟨b, hb, rfl⟩ := isP_iff.1 hk
      have hne : p a.m ≠ p b.m := by intro e2; have := h.pinj; rw [e2, isP_iff.2 ⟨b, hb, rfl⟩] at this; cases this
      rw [compF_far hne]; exact hV _ (isP_iff.2 ⟨b, by simp [hb], rfl⟩)
theorem comp_free {p : Nat → Nat} (rows : List Rw) (V0 : Nat) {k : Nat} (h : isP p rows k = false) : (comp p rows V0).testBit k = V0.testBit k := comp_far rows V0 V0 h
theorem comp_sol {p : Nat → Nat} {rows : List Rw} (h : Red p rows) {V0 : Nat} (hV : ∀ k, isP p rows k = true → V0.testBit k = false) : Sol rows (comp p rows V0).testBit := fun e he => by
  have h1 := comp_on h V0 V0 hV he
  have h2 : dot e.m (upd V0.testBit (p e.m) ((comp p rows V0).testBit (p e.m))) = dot e.m (comp p rows V0).testBit := dot_congr fun k hk hb => by
    by_cases ek : k = p e.m
    · rw [ek, upd_same]
    · rw [upd_far ek, comp_free rows V0 (h.only he hb ek)]
  rw [← h2, dot_upd _ _ _ (h.plt he), h.on e he, hV _ (isP_iff.2 ⟨e, he, rfl⟩)]
  unfold comp; rw [h1]
  cases dot e.m V0.testBit <;> cases e.r <;> rfl
/-- the number whose bits fr[i] are those of n -/
def selK (fr : List Nat) (n : Nat) : Nat → Nat
  | 0 => 0
  | i + 1 => if n.testBit i then selK fr n i ||| 2 ^ fr.getD i 0 else selK fr n i
def selV (fr : List Nat) (n : Nat) : Nat := selK fr n fr.length
theorem selK_bit {fr : List Nat} (hn : fr.Nodup) {n i : Nat} (hi : i ≤ fr.length) (k : Nat) : (selK fr n i).testBit k = true ↔ ∃ j, j < i ∧ fr.getD j 0 = k ∧ n.testBit j = true := by
  induction i with
  | zero => simp [selK]
  | succ i ih =>
    have := ih (by omega)
    unfold selK; split
    · rename_i h
      rw [Nat.testBit_or, Bool.or_eq_true, this, Nat.testBit_two_pow, decide_eq_true_eq]
      constructor
      · rintro (⟨j, hj, h1, h2⟩ | h1)
        · exact ⟨j, by omega, h1, h2⟩
        · exact ⟨i, by omega, h1, h⟩
      · rintro ⟨j, hj, h1, h2⟩
        by_cases e : j = i
        · subst e; exact .inr h1
        · exact .inl ⟨j, by omega, h1, h2⟩
    · rename_i h
      rw [this]
      constructor
      · rintro ⟨j, hj, h1, h2⟩; exact ⟨j, by omega, h1, h2⟩
      · rintro ⟨j, hj, h1, h2⟩
        by_cases e : j = i
        · subst e; exact absurd h2 h
        · exact ⟨j, by omega, h1, h2⟩
theorem selV_at {fr : List Nat} (hn : fr.Nodup) {n i : Nat} (hi : i < fr.length) : (selV fr n).testBit (fr.getD i 0) = n.testBit i := by
  rw [Bool.eq_iff_iff, selV, selK_bit hn (Nat.le_refl _)]
  constructor
  · rintro ⟨j, hj, h1, h2⟩; rw [← nd_getD hn hj hi h1]; exact h2
  · intro h; exact ⟨i, hi, rfl, h⟩
theorem selV_off {fr : List Nat} (hn : fr.Nodup) {n k : Nat} (hk : k ∉ fr) : (selV fr n).testBit k = false := by
  rw [Bool.eq_false_iff]; intro h
  obtain ⟨j, hj, rfl, _⟩ := (selK_bit hn (Nat.le_refl _) k).1 h
  exact hk (getD_mem hj)
/-- the free bits, in some order -/
structure Fre (p : Nat → Nat) (rows : List Rw) (u : Nat) (fr : List Nat) : Prop where
  nd : fr.Nodup
  mem : ∀ k, k ∈ fr ↔ k < u ∧ isP p rows k = false
def freeU (p : Nat → Nat) (rows : List Rw) (u : Nat) : List Nat := (List.range u).filter fun k => !isP p rows k
theorem freU (p : Nat → Nat) (rows : List Rw) (u : Nat) : Fre p rows u (freeU p rows u) where
  nd := List.Pairwise.filter _ List.nodup_range
  mem k := by simp [freeU]
theorem freD (p : Nat → Nat) (rows : List Rw) (u : Nat) : Fre p rows u (freeU p rows u).reverse where
  nd := List.pairwise_reverse.2 ((freU p rows u).nd.imp fun h => Ne.symm h)
  mem k := by rw [List.mem_reverse]; exact (freU p rows u).mem k
theorem filter_one {P Q : Nat → Bool} {u q : Nat} (hq : q < u) (hP : P q = true) (hQ : ∀ k, Q k = (P k && !(q == k))) : ((List.range u).filter Q).length + 1 = ((List.range u).filter P).length := by
  induction u with
  | zero => omega
  | succ u ih =>
    rw [List.range_succ, List.filter_append, List.filter_append, List.length_append, List.length_append]
    by_cases e : q = u
    · subst e
      have h1 : (List.range q).filter Q = (List.range q).filter P := List.filter_congr fun k hk => by
        rw [hQ k, beq_eq_false_iff_ne.2 (by have := List.mem_range.1 hk; omega)]; simp
      have h2 : Q q = false := by rw [hQ q]; simp
      rw [h1]; simp [List.filter_cons, hP, h2]
    · have h2 : Q u = P u := by rw [hQ u, beq_eq_false_iff_ne.2 e]; simp
      have := ih (by omega)
      have h3 : ([u].filter Q).length = ([u].filter P).length := by simp [List.filter_cons, h2]
      omega
theorem free_len {p : Nat → Nat} {rows : List Rw} (h : Red p rows) {u : Nat} (hu : ∀ e ∈ rows, p e.m < u) : (freeU p rows u).length + rows.length = u := by
  induction rows with
  | nil =>
    have : freeU p [] u = List.range u := List.filter_eq_self.2 fun _ _ => rfl
    rw [this]; simp
  | cons e rows ih =>
    have h1 := ih h.tail (fun a ha => hu a (by simp [ha]))
    have h2 := filter_one (P := fun k => !isP p rows k) (Q := fun k => !isP p (e :: rows) k) (hu e (by simp)) (by rw [h.pinj]; rfl) (fun k => by simp [isP, Bool.and_comm])
    unfold freeU at h1 ⊢
    rw [List.length_cons]; omega
theorem red_plt {p : Nat → Nat} {rows : List Rw} (h : Red p rows) {u : Nat} (hu : ∀ e ∈ rows, e.m < 2 ^ u) : ∀ e ∈ rows, p e.m < u := fun e he => by
  apply Classical.byContradiction; intro hk
  have := h.on e he
  rw [Nat.testBit_lt_two_pow (Nat.lt_of_lt_of_le (hu e he) (Nat.pow_le_pow_right (by omega) (by omega)))] at this; cases this
theorem red_len_le {p : Nat → Nat} {rows : List Rw} (h : Red p rows) {u : Nat} (hu : ∀ e ∈ rows, e.m < 2 ^ u) : rows.length ≤ u := by
  have := free_len h (red_plt h hu); omega

/-- the fill with number n -/
def fillOf (l unk : List Nat) (p : Nat → Nat) (rows : List Rw) (fr : List Nat) (n : Nat) : List Nat := fillN l unk (comp p rows (selV fr n)).testBit
theorem Fre.piv0 {p : Nat → Nat} {rows : List Rw} {u : Nat} {fr : List Nat} (hf : Fre p rows u fr) (n : Nat) : ∀ k, isP p rows k = true → (selV fr n).testBit k = false := fun k hk =>
  selV_off hf.nd fun hm => by have := ((hf.mem k).1 hm).2; rw [hk] at this; cases this
theorem Fre.at {p : Nat → Nat} {rows : List Rw} {u : Nat} {fr : List Nat} (hf : Fre p rows u fr) {n i : Nat} (hi : i < fr.length) : (comp p rows (selV fr n)).testBit (fr.getD i 0) = n.testBit i := by
  rw [comp_free _ _ ((hf.mem _).1 (getD_mem hi)).2, selV_at hf.nd hi]
theorem Fre.sol {p : Nat → Nat} {rows : List Rw} {u : Nat} {fr : List Nat} (hf : Fre p rows u fr) (hr : Red p rows) (n : Nat) : Sol rows (comp p rows (selV fr n)).testBit := comp_sol hr (hf.piv0 n)
/-- the number whose bits a property tells -/
def numOf (f : Nat → Bool) : Nat → Nat
  | 0 => 0
  | i + 1 => if f i then numOf f i ||| 2 ^ i else numOf f i
/-- solutions that have the same free bits fill alike -/
theorem sol_fill {l unk : List Nat} {p : Nat → Nat} {rows : List Rw} (hr : Red p rows) (hu : ∀ e ∈ rows, e.m < 2 ^ unk.length) {x y : Nat → Bool} (hx : Sol rows x) (hy : Sol rows y) (h : ∀ k, k < unk.length → isP p rows k = false → x k = y k) (h64 : unk.length ≤ 64) : ∀ k, k < unk.length → x k = y k := by
  have cut : ∀ z : Nat → Bool, Sol rows z → Sol rows (fun k => decide (k < unk.length) && z k) := fun z hz e he => by
    rw [← hz e he]
    exact dot_congr fun k hk hb => by
      have : k < unk.length := by
        apply Classical.byContradiction; intro hk2
        rw [Nat.testBit_lt_two_pow (Nat.lt_of_lt_of_le (hu e he) (Nat.pow_le_pow_right (by omega) (by omega)))] at hb; cases hb
      simp [this]
  have := hr.uniq (cut x hx) (cut y hy) fun k hk hp => by
    by_cases hk2 : k < unk.length
    · simp [hk2, h k hk2 hp]
    · simp [hk2]
  intro k hk
  have := this k (by omega)
  simpa [hk] using this
/-- a further list of bytes among lists in order: where it comes to stand -/
def putK (L : List (List Nat)) (t : List Nat) : Nat → Nat
  | 0 => 0
  | k + 1 => if ltL t (L.getD k []) then putK L t k else k + 1
def putS (L : List (List Nat)) (t : List Nat) : List (List Nat) := L.take (putK L t L.length) ++ (t :: L.drop (putK L t L.length))
/-- all fills by the reference's order -/
def allS (l unk : List Nat) (rows : List Rw) : Nat → List (List Nat)
  | 0 => []
  | x + 1 => putS (allS l unk rows x) (fillOf l unk low rows (freeU low rows unk.length) x)
def allI (l unk : List Nat) (rows : List Rw) (n : Nat) : List (List Nat) := (List.range n).map (fillOf l unk top rows (freeU top rows unk.length).reverse)
/-- the reference's least fill: the free bits one by one -/
def leastR (rows : List Rw) : Nat → List Rw
  | 0 => rows
  | i + 1 => (redS (leastR rows i ++ [⟨2 ^ i, false⟩])).getD (leastR rows i)
theorem dot_pow {i : Nat} (hi : i < 64) (x : Nat → Bool) : dot (2 ^ i) x = x i := by
  have h1 : dot (2 ^ i) (upd (fun _ => false) i (x i)) = dot (2 ^ i) x := dot_congr fun k hk hb => by
    rw [Nat.testBit_two_pow, decide_eq_true_eq] at hb
    subst hb; rw [upd_same]
  rw [← h1, dot_upd _ _ _ hi, dot_false, Nat.testBit_two_pow_self]
  cases x i <;> rfl
/-- if there is one fill alone -/
theorem only_same {l unk : List Nat} {a b : List Rw} (h64 : unk.length ≤ 64) (ha : Red top a) (hb : Red low b) (hua : ∀ e ∈ a, e.m < 2 ^ unk.length) (hub : ∀ e ∈ b, e.m < 2 ^ unk.length) (hs : ∀ x, Sol a x ↔ Sol b x) (hlen : a.length = unk.length) :
    fillOf l unk top a (freeU top a unk.length).reverse 0 = fillN l unk (comp low b 0).testBit := by
  have hf := freD top a unk.length
  have hy := (hs _).2 (comp_sol hb (V0 := 0) (fun k _ => Nat.zero_testBit k))
  have h0 : freeU top a unk.length = [] := List.eq_nil_of_length_eq_zero (by have := free_len ha (red_plt ha hua); omega)
  exact fillN_congr (sol_fill (l := l) ha hua (hf.sol ha 0) hy (fun k hk hp => by have := (freU top a unk.length).mem k |>.2 ⟨hk, hp⟩; rw [h0] at this; cases this) h64)
end Go.Proofs.YtddihmpiaemadaaGreatDoor
