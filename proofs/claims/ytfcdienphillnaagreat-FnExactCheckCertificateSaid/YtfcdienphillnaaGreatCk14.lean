/- Bytes whose unknown bits are filled: bits of a list of bytes, the rows of the equations, and what a solution fills. Plain laws. -/
import Derived.Test.YtfcdienphillnaaGreatCk13
import Derived.Test.YtfcdienphillnaaGreatCk12
namespace Go.Proofs.YtfcdienphillnaaGreat
set_option linter.unusedVariables false
set_option linter.unusedSimpArgs false

def bitAt (l : List Nat) (b : Nat) : Bool := (l.getD (b / 8) 0).testBit (7 - b % 8)
theorem pow7 : ∀ r : Fin 8, ∀ s : Fin 8, (128 / 2 ^ r.val).testBit (7 - s.val) = (r == s) := by decide
theorem getD_set {l : List Nat} {i j x : Nat} (hi : i < l.length) : (l.set i x).getD j 0 = if i = j then x else l.getD j 0 := by
  simp only [List.getD_eq_getElem?_getD, List.getElem?_set]
  by_cases e : i = j
  · rw [if_pos e, if_pos e, if_pos (by omega)]; rfl
  · rw [if_neg e, if_neg e]
theorem bitAt_flip {l : List Nat} {b : Nat} (c : Nat) (hb : b < 8 * l.length) : bitAt (flipN l b) c = (bitAt l c ^^ (b == c)) := by
  unfold bitAt flipN
  rw [getD_set (by omega)]
  by_cases e : b / 8 = c / 8
  · rw [if_pos e, e, Nat.testBit_xor]
    congr 1
    have := pow7 ⟨b % 8, Nat.mod_lt _ (by omega)⟩ ⟨c % 8, Nat.mod_lt _ (by omega)⟩
    simp only at this
    rw [this, Bool.eq_iff_iff]
    simp only [beq_iff_eq, Fin.mk.injEq]
    omega
  · rw [if_neg e]
    have : (b == c) = false := by rw [beq_eq_false_iff_ne]; intro e2; rw [e2] at e; exact e rfl
    rw [this, Bool.xor_false]
theorem bits_ext {a b : List Nat} (hl : a.length = b.length) (ha : ∀ x ∈ a, x < 256) (hb : ∀ x ∈ b, x < 256) (h : ∀ c, c < 8 * a.length → bitAt a c = bitAt b c) : a = b := by
  apply List.ext_getElem hl
  intro i h1 h2
  refine Nat.eq_of_testBit_eq fun j => ?_
  by_cases hj : j < 8
  · have := h (8 * i + (7 - j)) (by omega)
    unfold bitAt at this
    rw [show (8 * i + (7 - j)) / 8 = i by omega, show 7 - (8 * i + (7 - j)) % 8 = j by omega] at this
    rw [List.getD_eq_getElem?_getD, List.getD_eq_getElem?_getD, List.getElem?_eq_getElem h1, List.getElem?_eq_getElem h2] at this
    exact this
  · have p : 2 ^ 8 ≤ 2 ^ j := Nat.pow_le_pow_right (by omega) (by omega)
    rw [Nat.testBit_lt_two_pow (Nat.lt_of_lt_of_le (ha _ (List.getElem_mem h1)) p), Nat.testBit_lt_two_pow (Nat.lt_of_lt_of_le (hb _ (List.getElem_mem h2)) p)]
theorem ofNat_xor (x y : Nat) : UInt8.ofNat (x ^^^ y) = UInt8.ofNat x ^^^ UInt8.ofNat y := by
  apply UInt8.toNat_inj.1
  rw [UInt8.toNat_xor]
  simp only [UInt8.toNat_ofNat']
  exact Nat.xor_mod_two_pow
/-- one changed bit changes the check value by its effect -/
theorem flip_crc {l : List Nat} {b v : Nat} (hb : b < 8 * l.length) (hv : v < 65536) : crcN (flipN l b) v = crcN l v ^^^ effN l.length b := by
  unfold effN crcN
  rw [← crcL_xor _ _ _ _ (by simp [flipN_len]) hv (by omega), Nat.xor_zero]
  congr 1
  apply List.ext_getElem (by simp [flipN_len])
  intro i h1 h2
  simp only [List.getElem_map, List.getElem_zipWith, ← ofNat_xor]
  congr 1
  simp only [flipN, List.getElem_set, List.getElem_replicate]
  have hi : i < l.length := by simpa [flipN_len] using h1
  split
  · rename_i e
    subst e
    have hr : b / 8 < l.length := by omega
    simp [List.getD_eq_getElem?_getD, List.getElem?_eq_getElem hi, List.getElem?_replicate, hr]
  · simp

def clr1 (l : List Nat) (b : Nat) : List Nat := if bitAt l b then flipN l b else l
def clrN (l : List Nat) (unk : List Nat) : List Nat := unk.foldl clr1 l
theorem clr1_len (l : List Nat) (b : Nat) : (clr1 l b).length = l.length := by unfold clr1; split <;> simp [flipN_len]
theorem clr1_lt {l : List Nat} {b : Nat} (h : ∀ x ∈ l, x < 256) : ∀ x ∈ clr1 l b, x < 256 := by unfold clr1; split; exact flipN_lt h; exact h
theorem clr1_bit {l : List Nat} {b : Nat} (c : Nat) (hb : b < 8 * l.length) : bitAt (clr1 l b) c = (bitAt l c && !(b == c)) := by
  unfold clr1; split
  · rename_i h
    rw [bitAt_flip c hb]
    by_cases e : b = c
    · subst e; rw [h]; simp
    · rw [beq_eq_false_iff_ne.2 e]; simp
  · rename_i h
    by_cases e : b = c
    · subst e; rw [Bool.not_eq_true] at h; rw [h]; simp
    · rw [beq_eq_false_iff_ne.2 e]; simp
theorem clrN_snoc (l unk : List Nat) (b : Nat) : clrN l (unk ++ [b]) = clr1 (clrN l unk) b := by simp [clrN, List.foldl_append]
theorem clrN_len (l unk : List Nat) : (clrN l unk).length = l.length := by
  unfold clrN
  induction unk generalizing l with
  | nil => rfl
  | cons b unk ih => simp only [List.foldl_cons]; rw [ih, clr1_len]
theorem clrN_lt {l unk : List Nat} (h : ∀ x ∈ l, x < 256) : ∀ x ∈ clrN l unk, x < 256 := by
  unfold clrN
  induction unk generalizing l with
  | nil => exact h
  | cons b unk ih => exact ih (clr1_lt h)
theorem clrN_bit {l unk : List Nat} (hu : ∀ b ∈ unk, b < 8 * l.length) (c : Nat) : bitAt (clrN l unk) c = (bitAt l c && !(unk.any (· == c))) := by
  induction unk generalizing l with
  | nil => simp [clrN]
  | cons b unk ih =>
    have := ih (l := clr1 l b) (by intro a ha; rw [clr1_len]; exact hu a (by simp [ha]))
    rw [show clrN l (b :: unk) = clrN (clr1 l b) unk from rfl, this, clr1_bit c (hu b (by simp))]
    simp [Bool.and_assoc]
/-- the first k unknown bits filled -/
def fillK (l unk : List Nat) (x : Nat → Bool) : Nat → List Nat
  | 0 => l
  | k + 1 => if x k then flipN (fillK l unk x k) (unk.getD k 0) else fillK l unk x k
def fillN (l unk : List Nat) (x : Nat → Bool) : List Nat := fillK (clrN l unk) unk x unk.length
theorem fillK_len (l unk : List Nat) (x : Nat → Bool) (k : Nat) : (fillK l unk x k).length = l.length := by
  induction k with
  | zero => rfl
  | succ k ih => unfold fillK; split <;> simp [flipN_len, ih]
theorem fillK_lt {l unk : List Nat} {x : Nat → Bool} (h : ∀ y ∈ l, y < 256) (k : Nat) : ∀ y ∈ fillK l unk x k, y < 256 := by
  induction k with
  | zero => exact h
  | succ k ih => unfold fillK; split; exact flipN_lt ih; exact ih
theorem fillN_len (l unk : List Nat) (x : Nat → Bool) : (fillN l unk x).length = l.length := by rw [fillN, fillK_len, clrN_len]
theorem fillN_lt {l unk : List Nat} {x : Nat → Bool} (h : ∀ y ∈ l, y < 256) : ∀ y ∈ fillN l unk x, y < 256 := fillK_lt (clrN_lt h) _
theorem getD_mem {l : List Nat} {k : Nat} (h : k < l.length) : l.getD k 0 ∈ l := by
  rw [List.getD_eq_getElem?_getD, List.getElem?_eq_getElem h]; exact List.getElem_mem h
theorem fillK_off {l unk : List Nat} {x : Nat → Bool} (hu : ∀ b ∈ unk, b < 8 * l.length) {c k : Nat} (hk : k ≤ unk.length) (hc : ∀ j, j < k → unk.getD j 0 ≠ c) : bitAt (fillK l unk x k) c = bitAt l c := by
  induction k with
  | zero => rfl
  | succ k ih =>
    have := ih (by omega) (fun j hj => hc j (by omega))
    unfold fillK; split
    · rw [bitAt_flip c (by rw [fillK_len]; exact hu _ (getD_mem (by omega))), this, beq_eq_false_iff_ne.2 (hc k (by omega)), Bool.xor_false]
    · exact this
theorem nd_getD {unk : List Nat} (hn : unk.Nodup) {i j : Nat} (hi : i < unk.length) (hj : j < unk.length) (e : unk.getD i 0 = unk.getD j 0) : i = j := by
  rw [List.getD_eq_getElem?_getD, List.getD_eq_getElem?_getD, List.getElem?_eq_getElem hi, List.getElem?_eq_getElem hj] at e
  exact (List.getElem_inj hn).1 e
theorem fillK_on {l unk : List Nat} {x : Nat → Bool} (hn : unk.Nodup) (hu : ∀ b ∈ unk, b < 8 * l.length) {i k : Nat} (hk : k ≤ unk.length) (hi : i < k) : bitAt (fillK l unk x k) (unk.getD i 0) = (bitAt l (unk.getD i 0) ^^ x i) := by
  induction k with
  | zero => omega
  | succ k ih =>
    by_cases e : i = k
    · subst e
      have h0 := fillK_off (x := x) hu (c := unk.getD i 0) (k := i) (by omega) (fun j hj e2 => by have := nd_getD hn (by omega) (by omega) e2; omega)
      unfold fillK
      cases hx : x i
      · rw [if_neg (by simp), h0, Bool.xor_false]
      · rw [if_pos rfl, bitAt_flip _ (by rw [fillK_len]; exact hu _ (getD_mem (by omega))), h0, beq_self_eq_true]
    · have h0 := ih (by omega) (by omega)
      unfold fillK; split
      · have hne : unk.getD k 0 ≠ unk.getD i 0 := fun e2 => e (nd_getD hn (by omega) (by omega) e2).symm
        rw [bitAt_flip _ (by rw [fillK_len]; exact hu _ (getD_mem (by omega))), h0, beq_eq_false_iff_ne.2 hne, Bool.xor_false]
      · exact h0
theorem fillN_on {l unk : List Nat} {x : Nat → Bool} (hn : unk.Nodup) (hu : ∀ b ∈ unk, b < 8 * l.length) {i : Nat} (hi : i < unk.length) : bitAt (fillN l unk x) (unk.getD i 0) = x i := by
  have hu' : ∀ b ∈ unk, b < 8 * (clrN l unk).length := by rw [clrN_len]; exact hu
  rw [fillN, fillK_on hn hu' (Nat.le_refl _) hi, clrN_bit hu]
  have : unk.any (· == unk.getD i 0) = true := List.any_eq_true.2 ⟨_, getD_mem hi, by simp⟩
  rw [this]; simp
theorem fillN_off {l unk : List Nat} {x : Nat → Bool} (hu : ∀ b ∈ unk, b < 8 * l.length) {c : Nat} (hc : c ∉ unk) : bitAt (fillN l unk x) c = bitAt l c := by
  have hu' : ∀ b ∈ unk, b < 8 * (clrN l unk).length := by rw [clrN_len]; exact hu
  rw [fillN, fillK_off hu' (Nat.le_refl _) (fun j hj e => hc (by rw [← e]; exact getD_mem hj)), clrN_bit hu]
  have : unk.any (· == c) = false := List.any_eq_false.2 fun a ha => by simp; intro e; exact hc (e ▸ ha)
  rw [this]; simp
theorem fillN_congr {l unk : List Nat} {x y : Nat → Bool} (h : ∀ k, k < unk.length → x k = y k) : fillN l unk x = fillN l unk y := by
  have : ∀ k, k ≤ unk.length → fillK (clrN l unk) unk x k = fillK (clrN l unk) unk y k := by
    intro k
    induction k with
    | zero => intro _; rfl
    | succ k ih => intro hk; unfold fillK; rw [ih (by omega), h k (by omega)]
  exact this _ (Nat.le_refl _)
/-- what agrees with the data in all known bits -/
structure Agr (l unk F : List Nat) : Prop where
  len : F.length = l.length
  lt : ∀ x ∈ F, x < 256
  off : ∀ c, c < 8 * l.length → c ∉ unk → bitAt F c = bitAt l c
theorem Agr.fill {l unk : List Nat} {x : Nat → Bool} (hl : ∀ y ∈ l, y < 256) (hu : ∀ b ∈ unk, b < 8 * l.length) : Agr l unk (fillN l unk x) :=
  ⟨fillN_len _ _ _, fillN_lt hl, fun c _ hc => fillN_off hu hc⟩
theorem mem_getD {l : List Nat} {a : Nat} (h : a ∈ l) : ∃ k, k < l.length ∧ l.getD k 0 = a := by
  obtain ⟨k, hk, e⟩ := List.getElem_of_mem h
  exact ⟨k, hk, by rw [List.getD_eq_getElem?_getD, List.getElem?_eq_getElem hk]; exact e⟩
theorem Agr.is {l unk F : List Nat} (h : Agr l unk F) (hl : ∀ y ∈ l, y < 256) (hn : unk.Nodup) (hu : ∀ b ∈ unk, b < 8 * l.length) {x : Nat → Bool} (hx : ∀ k, k < unk.length → bitAt F (unk.getD k 0) = x k) : F = fillN l unk x := by
  refine bits_ext (by rw [h.len, fillN_len]) h.lt (fillN_lt hl) fun c hc => ?_
  rw [h.len] at hc
  by_cases hm : c ∈ unk
  · obtain ⟨k, hk, rfl⟩ := mem_getD hm
    rw [hx k hk, fillN_on hn hu hk]
  · rw [h.off c hc hm, fillN_off hu hm]
theorem Agr.self {l unk : List Nat} (hl : ∀ y ∈ l, y < 256) : Agr l unk l := ⟨rfl, hl, fun _ _ _ => rfl⟩

/-- what the chosen bits add to the check value -/
def effX (n : Nat) (unk : List Nat) (x : Nat → Bool) : Nat → Nat
  | 0 => 0
  | k + 1 => if x k then effX n unk x k ^^^ effN n (unk.getD k 0) else effX n unk x k
theorem effX_lt (n : Nat) (unk : List Nat) (x : Nat → Bool) (k : Nat) : effX n unk x k < 65536 := by
  induction k with
  | zero => show 0 < 65536; omega
  | succ k ih => unfold effX; split; exact Nat.xor_lt_two_pow (n := 16) ih (effN_lt _ _); exact ih
theorem fillK_crc {l unk : List Nat} {x : Nat → Bool} (hu : ∀ b ∈ unk, b < 8 * l.length) {v : Nat} (hv : v < 65536) {k : Nat} (hk : k ≤ unk.length) : crcN (fillK l unk x k) v = crcN l v ^^^ effX l.length unk x k := by
  induction k with
  | zero => simp [fillK, effX]
  | succ k ih =>
    have := ih (by omega)
    unfold fillK effX; split
    · rw [flip_crc (by rw [fillK_len]; exact hu _ (getD_mem (by omega))) hv, this, fillK_len, Nat.xor_assoc]
    · exact this
theorem fillN_crc {l unk : List Nat} {x : Nat → Bool} (hu : ∀ b ∈ unk, b < 8 * l.length) {v : Nat} (hv : v < 65536) : crcN (fillN l unk x) v = crcN (clrN l unk) v ^^^ effX l.length unk x unk.length := by
  have hu' : ∀ b ∈ unk, b < 8 * (clrN l unk).length := by rw [clrN_len]; exact hu
  rw [fillN, fillK_crc hu' hv (Nat.le_refl _), clrN_len]
/-- the mask of equation i over the first K unknown bits -/
def maskR (n : Nat) (unk : List Nat) (i : Nat) : Nat → Nat
  | 0 => 0
  | k + 1 => if (effN n (unk.getD k 0)).testBit (15 - i) then maskR n unk i k ||| 2 ^ k else maskR n unk i k
theorem maskR_bit (n : Nat) (unk : List Nat) (i K j : Nat) : (maskR n unk i K).testBit j = (decide (j < K) && (effN n (unk.getD j 0)).testBit (15 - i)) := by
  induction K with
  | zero => simp [maskR]
  | succ K ih =>
    unfold maskR
    by_cases e : j = K
    · subst e
      split
      · rename_i h; rw [Nat.testBit_or, ih, Nat.testBit_two_pow_self, h]; simp
      · rename_i h; rw [ih]; simp at h ⊢; exact h
    · have h1 : decide (j < K + 1) = decide (j < K) := by apply decide_eq_decide.2; omega
      rw [h1]
      split
      · rw [Nat.testBit_or, ih, Nat.testBit_two_pow]; simp [Ne.symm e]
      · rw [ih]
theorem maskR_lt (n : Nat) (unk : List Nat) (i K : Nat) : maskR n unk i K < 2 ^ K := by
  induction K with
  | zero => show 0 < 1; omega
  | succ K ih =>
    have h2 : 2 ^ K < 2 ^ (K + 1) := Nat.pow_lt_pow_right (by omega) (by omega)
    unfold maskR; split
    · exact Nat.or_lt_two_pow (Nat.lt_trans ih h2) h2
    · exact Nat.lt_trans ih h2
theorem mask_dotN (n : Nat) (unk : List Nat) (x : Nat → Bool) (i K : Nat) {L : Nat} (hL : K ≤ L) : dotN K (maskR n unk i L) x = (effX n unk x K).testBit (15 - i) := by
  induction K with
  | zero => simp [dotN, effX]
  | succ K ih =>
    simp only [dotN]
    rw [ih (by omega), maskR_bit, show decide (K < L) = true from decide_eq_true (by omega), Bool.true_and]
    have e : effX n unk x (K + 1) = if x K then effX n unk x K ^^^ effN n (unk.getD K 0) else effX n unk x K := rfl
    rw [e]
    cases h : x K
    · rw [Bool.and_false, Bool.xor_false]; rfl
    · rw [Bool.and_true]; exact (Nat.testBit_xor _ _ _).symm
theorem mask_dot (n : Nat) (unk : List Nat) (x : Nat → Bool) (i : Nat) {K : Nat} (hK : K ≤ 64) : dot (maskR n unk i K) x = (effX n unk x K).testBit (15 - i) :=
  (dotN_le hK (maskR_lt n unk i K)).trans (mask_dotN n unk x i K (Nat.le_refl _))
def rowsR (n : Nat) (unk : List Nat) (rest : Nat) : List Rw := (List.range 16).map fun i => ⟨maskR n unk i unk.length, rest.testBit (15 - i)⟩
theorem rowsR_len (n : Nat) (unk : List Nat) (rest : Nat) : (rowsR n unk rest).length = 16 := by simp [rowsR]
theorem rowsR_lt (n : Nat) (unk : List Nat) (rest : Nat) : ∀ e ∈ rowsR n unk rest, e.m < 2 ^ unk.length := by
  intro e he
  obtain ⟨i, _, rfl⟩ := List.mem_map.1 he
  exact maskR_lt _ _ _ _
theorem rowsR_sol {n : Nat} {unk : List Nat} {rest : Nat} (hu : unk.length ≤ 64) (hr : rest < 65536) (x : Nat → Bool) : Sol (rowsR n unk rest) x ↔ effX n unk x unk.length = rest := by
  constructor
  · intro h
    refine Nat.eq_of_testBit_eq fun j => ?_
    by_cases hj : j < 16
    · have := h ⟨maskR n unk (15 - j) unk.length, rest.testBit (15 - (15 - j))⟩ (List.mem_map.2 ⟨15 - j, by simp; omega, rfl⟩)
      simp only at this
      rw [mask_dot _ _ _ _ hu, show 15 - (15 - j) = j by omega] at this
      exact this
    · have p : 2 ^ 16 ≤ 2 ^ j := Nat.pow_le_pow_right (by omega) (by omega)
      rw [Nat.testBit_lt_two_pow (Nat.lt_of_lt_of_le (effX_lt n unk x _) p), Nat.testBit_lt_two_pow (Nat.lt_of_lt_of_le hr p)]
  · intro h e he
    obtain ⟨i, _, rfl⟩ := List.mem_map.1 he
    simp only
    rw [mask_dot _ _ _ _ hu, h]
theorem xor_swap {a b c : Nat} : a ^^^ b = c ↔ b = a ^^^ c := by
  constructor
  · rintro rfl; rw [← Nat.xor_assoc, Nat.xor_self, Nat.zero_xor]
  · rintro rfl; rw [← Nat.xor_assoc, Nat.xor_self, Nat.zero_xor]
/-- a solution is what gives the check value -/
theorem fill_sol {l unk : List Nat} {crc : Nat} (hu : ∀ b ∈ unk, b < 8 * l.length) (hK : unk.length ≤ 64) (hc : crc < 65536) (x : Nat → Bool) : Sol (rowsR l.length unk (crcN (clrN l unk) 65535 ^^^ crc)) x ↔ crcN (fillN l unk x) 65535 = crc := by
  rw [rowsR_sol hK (Nat.xor_lt_two_pow (n := 16) (crcN_lt _ _ (by omega)) hc), fillN_crc hu (by omega)]
  exact xor_swap.symm

/-- the order of bytes -/
def ltL : List Nat → List Nat → Bool
  | _, [] => false
  | [], _ :: _ => true
  | a :: l, b :: m => decide (a < b) || (a == b && ltL l m)
theorem ltL_irrefl (l : List Nat) : ltL l l = false := by
  induction l with
  | nil => rfl
  | cons a l ih => simp [ltL, ih]
theorem ltL_trans {a b c : List Nat} (h1 : ltL a b = true) (h2 : ltL b c = true) : ltL a c = true := by
  induction a generalizing b c with
  | nil => cases b with
    | nil => simp [ltL] at h1
    | cons y b => cases c with
      | nil => simp [ltL] at h2
      | cons z c => rfl
  | cons x a ih => cases b with
    | nil => simp [ltL] at h1
    | cons y b => cases c with
      | nil => simp [ltL] at h2
      | cons z c =>
        simp only [ltL, Bool.or_eq_true, decide_eq_true_eq, Bool.and_eq_true, beq_iff_eq] at h1 h2 ⊢
        rcases h1 with h1 | ⟨rfl, h1⟩ <;> rcases h2 with h2 | ⟨rfl, h2⟩
        · exact .inl (Nat.lt_trans h1 h2)
        · exact .inl h1
        · exact .inl h2
        · exact .inr ⟨rfl, ih h1 h2⟩
theorem ltL_tri {a b : List Nat} (h1 : ltL a b = false) (h2 : ltL b a = false) : a = b := by
  induction a generalizing b with
  | nil => cases b with
    | nil => rfl
    | cons y b => simp [ltL] at h1
  | cons x a ih => cases b with
    | nil => simp [ltL] at h2
    | cons y b =>
      simp only [ltL, Bool.or_eq_false_iff, decide_eq_false_iff_not, Bool.and_eq_false_iff, beq_eq_false_iff_ne] at h1 h2
      have e : x = y := by omega
      subst e
      rw [ih (h1.2.resolve_left (by simp)) (h2.2.resolve_left (by simp))]
theorem lt_of_bit {x y i : Nat} (h0 : x.testBit i = false) (h1 : y.testBit i = true) (h : ∀ j, i < j → x.testBit j = y.testBit j) : x < y := by
  have e : x / 2 ^ (i + 1) = y / 2 ^ (i + 1) := Nat.eq_of_testBit_eq fun j => by
    rw [Nat.testBit_div_two_pow, Nat.testBit_div_two_pow]; exact h _ (by omega)
  have hx := Nat.div_add_mod x (2 ^ (i + 1))
  have hy := Nat.div_add_mod y (2 ^ (i + 1))
  have mx : x % 2 ^ (i + 1) = x % 2 ^ i := by
    rw [Nat.testBit_eq_decide_div_mod_eq, decide_eq_false_iff_not] at h0
    rw [Nat.mod_pow_succ, show x / 2 ^ i % 2 = 0 by omega]; simp
  have my : y % 2 ^ (i + 1) = y % 2 ^ i + 2 ^ i := by
    rw [Nat.testBit_eq_decide_div_mod_eq, decide_eq_true_eq] at h1
    rw [Nat.mod_pow_succ, h1]; simp
  have := Nat.mod_lt x (Nat.two_pow_pos i)
  rw [← hx, ← hy, e, mx, my]; omega
/-- the first bit in which bytes differ tells their order -/
theorem ltL_bit {a b : List Nat} (hl : a.length = b.length) (ha : ∀ x ∈ a, x < 256) (hb : ∀ x ∈ b, x < 256) {c : Nat} (hc : c < 8 * a.length) (h : ∀ j, j < c → bitAt a j = bitAt b j) (h0 : bitAt a c = false) (h1 : bitAt b c = true) : ltL a b = true := by
  induction a generalizing b c with
  | nil => simp at hc
  | cons x a ih =>
    cases b with
    | nil => simp at hl
    | cons y b =>
      simp only [ltL, Bool.or_eq_true, decide_eq_true_eq, Bool.and_eq_true, beq_iff_eq]
      by_cases hc8 : c < 8
      · refine .inl (lt_of_bit (i := 7 - c) ?_ ?_ fun j hj => ?_)
        · have e := h0
          unfold bitAt at e
          rw [show c / 8 = 0 by omega, show c % 8 = c by omega] at e; exact e
        · have e := h1
          unfold bitAt at e
          rw [show c / 8 = 0 by omega, show c % 8 = c by omega] at e; exact e
        · by_cases hj8 : j < 8
          · have e := h (7 - j) (by omega)
            unfold bitAt at e
            rw [show (7 - j) / 8 = 0 by omega, show 7 - (7 - j) % 8 = j by omega] at e; exact e
          · have p : 2 ^ 8 ≤ 2 ^ j := Nat.pow_le_pow_right (by omega) (by omega)
            rw [Nat.testBit_lt_two_pow (Nat.lt_of_lt_of_le (ha x (by simp)) p), Nat.testBit_lt_two_pow (Nat.lt_of_lt_of_le (hb y (by simp)) p)]
      · have shift : ∀ (z : Nat) (l : List Nat) (j : Nat), bitAt (z :: l) (j + 8) = bitAt l j := fun z l j => by
          unfold bitAt
          rw [show (j + 8) / 8 = j / 8 + 1 by omega, show (j + 8) % 8 = j % 8 by omega, List.getD_cons_succ]
        have exy : x = y := by
          refine Nat.eq_of_testBit_eq fun j => ?_
          by_cases hj8 : j < 8
          · have e := h (7 - j) (by omega)
            unfold bitAt at e
            rw [show (7 - j) / 8 = 0 by omega, show 7 - (7 - j) % 8 = j by omega] at e; exact e
          · have p : 2 ^ 8 ≤ 2 ^ j := Nat.pow_le_pow_right (by omega) (by omega)
            rw [Nat.testBit_lt_two_pow (Nat.lt_of_lt_of_le (ha x (by simp)) p), Nat.testBit_lt_two_pow (Nat.lt_of_lt_of_le (hb y (by simp)) p)]
        obtain ⟨d, rfl⟩ : ∃ d, c = d + 8 := ⟨c - 8, by omega⟩
        refine .inr ⟨exy, ih (by simpa using hl) (fun z hz => ha z (by simp [hz])) (fun z hz => hb z (by simp [hz])) (c := d) (by simp at hc; omega) (fun j hj => ?_) ?_ ?_⟩
        · have := h (j + 8) (by omega); rwa [shift, shift] at this
        · rwa [shift] at h0
        · rwa [shift] at h1
/-- lists in order with the same members are one -/
theorem ltL_ext {a b : List (List Nat)} (ha : a.Pairwise fun x y => ltL x y = true) (hb : b.Pairwise fun x y => ltL x y = true) (h : ∀ e, e ∈ a ↔ e ∈ b) : a = b := by
  have asym : ∀ {x y : List Nat}, ltL x y = true → ltL y x = true → False := fun h1 h2 => by have := ltL_trans h1 h2; rw [ltL_irrefl] at this; cases this
  induction a generalizing b with
  | nil => cases b with
    | nil => rfl
    | cons f b => exact absurd ((h f).2 (by simp)) (by simp)
  | cons e a ih =>
    cases b with
    | nil => exact absurd ((h e).1 (by simp)) (by simp)
    | cons f b =>
      obtain ⟨ha1, ha2⟩ := List.pairwise_cons.1 ha
      obtain ⟨hb1, hb2⟩ := List.pairwise_cons.1 hb
      have ef : e = f := by
        rcases List.mem_cons.1 ((h e).1 (by simp)) with h1 | h1
        · exact h1
        · rcases List.mem_cons.1 ((h f).2 (by simp)) with h2 | h2
          · exact h2.symm
          · exact (asym (hb1 e h1) (ha1 f h2)).elim
      subst ef
      rw [ih ha2 hb2 fun g => ?_]
      constructor
      · intro hg
        rcases List.mem_cons.1 ((h g).1 (by simp [hg])) with h1 | h1
        · rw [h1] at hg; exact (asym (ha1 e hg) (ha1 e hg)).elim
        · exact h1
      · intro hg
        rcases List.mem_cons.1 ((h g).2 (by simp [hg])) with h1 | h1
        · rw [h1] at hg; exact (asym (hb1 e hg) (hb1 e hg)).elim
        · exact h1
end Go.Proofs.YtfcdienphillnaaGreat
