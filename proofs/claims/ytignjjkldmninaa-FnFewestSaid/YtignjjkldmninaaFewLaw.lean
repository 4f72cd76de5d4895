/- The smallest sets of dumps, as lists: the plain law. -/
import Derived.Test.YtignjjkldmninaaColLaw
import Derived.Test.YtignjjkldmninaaBits
namespace Go.Proofs.Ytignjjkldmninaa
set_option linter.unusedVariables false
open Go.RowKit
/-- the bits of a number that are set, from bit k on -/
def setG (b : Nat) : Nat → Nat → List Int
  | _, 0 => []
  | k, m + 1 => if b.testBit k = true then (k : Int) :: setG b (k + 1) m else setG b (k + 1) m
theorem set_len (b k m : Nat) : (setG b k m).length ≤ m := by
  induction m generalizing k with
  | zero => exact Nat.le_refl _
  | succ m ih =>
    have := ih (k + 1)
    unfold setG
    split <;> simp <;> omega
theorem set_yes {b k n : Nat} {acc X : List Int} (hk : k < n) (H : Hid (X = acc ++ setG b k (n - k))) (hc : b.testBit k = true) : Hid (X = (acc ++ [(k : Int)]) ++ setG b (k + 1) (n - (k + 1))) := by
  have e : n - k = (n - (k + 1)) + 1 := by omega
  exact Lib.hid (by rw [H.out, e, setG, if_pos hc]; simp)
theorem set_no {b k n : Nat} {acc X : List Int} (hk : k < n) (H : Hid (X = acc ++ setG b k (n - k))) (hc : b.testBit k = false) : Hid (X = acc ++ setG b (k + 1) (n - (k + 1))) := by
  have e : n - k = (n - (k + 1)) + 1 := by omega
  exact Lib.hid (by rw [H.out, e, setG, if_neg (by rw [hc]; decide)])
theorem set_end {b k n : Nat} {acc X : List Int} (hk : n ≤ k) (H : Hid (X = acc ++ setG b k (n - k))) : X = acc := by
  rw [H.out, show n - k = 0 by omega, setG, List.append_nil]
theorem set_mem {b k m : Nat} {x : Int} : x ∈ setG b k m ↔ ∃ i : Nat, k ≤ i ∧ i < k + m ∧ b.testBit i = true ∧ x = (i : Int) := by
  induction m generalizing k with
  | zero => simp [setG]; omega
  | succ m ih =>
    unfold setG
    by_cases h : b.testBit k = true
    · rw [if_pos h, List.mem_cons, ih]
      constructor
      · rintro (rfl | ⟨i, h1, h2, h3, h4⟩)
        · exact ⟨k, by omega, by omega, h, rfl⟩
        · exact ⟨i, by omega, by omega, h3, h4⟩
      · rintro ⟨i, h1, h2, h3, h4⟩
        by_cases hik : i = k
        · exact .inl (by rw [h4, hik])
        · exact .inr ⟨i, by omega, by omega, h3, h4⟩
    · rw [if_neg h, ih]
      constructor
      · rintro ⟨i, h1, h2, h3, h4⟩; exact ⟨i, by omega, by omega, h3, h4⟩
      · rintro ⟨i, h1, h2, h3, h4⟩
        by_cases hik : i = k
        · subst hik; exact absurd h3 h
        · exact ⟨i, by omega, by omega, h3, h4⟩
theorem set_lt {b n : Nat} {x : Int} (h : x ∈ setG b 0 n) : 0 ≤ x ∧ x < n := by
  obtain ⟨i, _, h2, _, rfl⟩ := set_mem.1 h
  omega
/-- this column is covered by a set -/
def covC (l : List Dsc) (s : List Int) (k : Nat) : Bool := (s.any fun i => ((colF k l).getD i.toNat secZ).state == 1) || !decide (0 < (stF 1 (colF k l)).length)
def covF (l : List Dsc) (s : List Int) : Nat → Nat → Bool
  | _, 0 => true
  | k, n + 1 => covC l s k && covF l s (k + 1) n
/-- this column is good in one of the dumps that the bits choose -/
def rchG (b k : Nat) : Nat → List Dsc → Bool
  | _, [] => false
  | i, d :: r => (b.testBit i && ((d.secs.getD k secZ).state == 1)) || rchG b k (i + 1) r
def reachF (l : List Dsc) (b : Nat) : Nat → Nat → Nat
  | _, 0 => 0
  | k, n + 1 => (if rchG b k 0 l = true then 1 else 0) + reachF l b (k + 1) n
theorem rch_iff {b k i : Nat} {l : List Dsc} : rchG b k i l = true ↔ ∃ j d, l[j]? = some d ∧ b.testBit (i + j) = true ∧ ((d.secs.getD k secZ).state == 1) = true := by
  induction l generalizing i with
  | nil => simp [rchG]
  | cons d r ih =>
    unfold rchG
    rw [Bool.or_eq_true, Bool.and_eq_true, ih]
    constructor
    · rintro (⟨h1, h2⟩ | ⟨j, d', h1, h2, h3⟩)
      · exact ⟨0, d, rfl, h1, h2⟩
      · exact ⟨j + 1, d', by simpa using h1, by rw [show i + (j + 1) = i + 1 + j by omega]; exact h2, h3⟩
    · rintro ⟨j, d', h1, h2, h3⟩
      cases j with
      | zero =>
        obtain rfl : d = d' := by simpa using h1
        exact .inl ⟨h2, h3⟩
      | succ j => exact .inr ⟨j, d', by simpa using h1, by rw [show i + 1 + j = i + (j + 1) by omega]; exact h2, h3⟩
theorem stF_pos {l : List Sec} : 0 < (stF 1 l).length ↔ ∃ s ∈ l, (s.state == 1) = true := by
  induction l with
  | nil => simp [stF]
  | cons e r ih =>
    unfold stF
    by_cases h : (e.state == 1) = true
    · rw [if_pos h]; simp only [List.length_cons]
      exact ⟨fun _ => ⟨e, List.mem_cons_self, h⟩, fun _ => by omega⟩
    · rw [if_neg h, ih]
      constructor
      · rintro ⟨s, h1, h2⟩; exact ⟨s, List.mem_cons_of_mem _ h1, h2⟩
      · rintro ⟨s, h1, h2⟩
        cases List.mem_cons.1 h1 with
        | inl h' => subst h'; exact absurd h2 h
        | inr h' => exact ⟨s, h', h2⟩
theorem rch_all {k : Nat} {l : List Dsc} : rchG (2 ^ l.length - 1) k 0 l = decide (0 < (stF 1 (colF k l)).length) := by
  rw [Bool.eq_iff_iff, decide_eq_true_eq, rch_iff, stF_pos]
  unfold colF
  constructor
  · rintro ⟨j, d, h1, _, h3⟩
    exact ⟨_, List.mem_map.2 ⟨d, List.mem_of_getElem? h1, rfl⟩, h3⟩
  · rintro ⟨s, h1, h2⟩
    obtain ⟨d, hd, rfl⟩ := List.mem_map.1 h1
    obtain ⟨j, hj, he⟩ := List.mem_iff_getElem.1 hd
    exact ⟨j, d, by rw [List.getElem?_eq_getElem hj, he], by rw [Nat.zero_add, Nat.testBit_two_pow_sub_one]; exact decide_eq_true hj, h2⟩
theorem cov_col {b k : Nat} {l : List Dsc} : covC l (setG b 0 l.length) k = (rchG b k 0 l || !rchG (2 ^ l.length - 1) k 0 l) := by
  unfold covC
  rw [rch_all]
  congr 1
  rw [Bool.eq_iff_iff, rch_iff, List.any_eq_true]
  constructor
  · rintro ⟨x, h1, h2⟩
    obtain ⟨i, _, hi, hb, rfl⟩ := set_mem.1 h1
    have hi' : i < l.length := by omega
    refine ⟨i, l[i], List.getElem?_eq_getElem hi', by rw [Nat.zero_add]; exact hb, ?_⟩
    simpa [colF, List.getD_eq_getElem?_getD, List.getElem?_eq_getElem hi'] using h2
  · rintro ⟨j, d, h1, h2, h3⟩
    obtain ⟨hj, rfl⟩ := List.getElem?_eq_some_iff.1 h1
    rw [Nat.zero_add] at h2
    refine ⟨(j : Int), set_mem.2 ⟨j, by omega, by omega, h2, rfl⟩, ?_⟩
    simpa [colF, List.getD_eq_getElem?_getD, List.getElem?_eq_getElem hj] using h3
theorem rch_mono {b k : Nat} {l : List Dsc} (h : rchG b k 0 l = true) : rchG (2 ^ l.length - 1) k 0 l = true := by
  obtain ⟨j, d, h1, _, h3⟩ := rch_iff.1 h
  refine rch_iff.2 ⟨j, d, h1, ?_, h3⟩
  rw [Nat.zero_add, Nat.testBit_two_pow_sub_one]
  exact decide_eq_true (List.getElem?_eq_some_iff.1 h1).1
theorem reach_le (l : List Dsc) (b k n : Nat) : reachF l b k n ≤ reachF l (2 ^ l.length - 1) k n := by
  induction n generalizing k with
  | zero => exact Nat.le_refl _
  | succ n ih =>
    have := ih (k + 1)
    unfold reachF
    by_cases h : rchG b k 0 l = true
    · rw [if_pos h, if_pos (rch_mono h)]; omega
    · rw [if_neg h]; omega
theorem reach_n (l : List Dsc) (b k n : Nat) : reachF l b k n ≤ n := by
  induction n generalizing k with
  | zero => exact Nat.le_refl _
  | succ n ih =>
    have := ih (k + 1)
    unfold reachF
    split <;> omega
theorem cov_reach (l : List Dsc) (b k n : Nat) : covF l (setG b 0 l.length) k n = decide (reachF l b k n = reachF l (2 ^ l.length - 1) k n) := by
  induction n generalizing k with
  | zero => rfl
  | succ n ih =>
    have h1 := reach_le l b (k + 1) n
    unfold covF reachF
    rw [ih, cov_col]
    by_cases h : rchG b k 0 l = true
    · rw [h, rch_mono h, Bool.eq_iff_iff]; simp
    · rw [Bool.not_eq_true] at h
      rw [h]
      cases h2 : rchG (2 ^ l.length - 1) k 0 l
      · rw [Bool.eq_iff_iff]; simp
      · rw [Bool.eq_iff_iff]; simp; omega
/-- a list is shorter, or comes first among those of its length -/
def lexB : List Int → List Int → Bool
  | x :: a, y :: b => if (x != y) = true then decide (x < y) else lexB a b
  | _, _ => false
def lessB (a b : List Int) : Bool := if (a.length == b.length) = true then lexB a b else decide (a.length < b.length)
theorem less_irr (a : List Int) : lexB a a = false := by
  induction a with
  | nil => rfl
  | cons x a ih => unfold lexB; simp [ih]
def cmpI (x y : Int) : Int := if x < y then -1 else if y < x then 1 else 0
def cmpF : List Int → List Int → Int
  | x :: a, y :: b => if (cmpI x y != 0) = true then cmpI x y else cmpF a b
  | _, _ => 0
theorem cmp_lex (a b : List Int) : decide (cmpF a b < 0) = lexB a b := by
  induction a generalizing b with
  | nil => cases b <;> rfl
  | cons x a ih =>
    cases b with
    | nil => rfl
    | cons y b =>
      unfold cmpF lexB
      by_cases h : x = y
      · subst h; simp [cmpI, ih]
      · have h1 : (x != y) = true := by simpa using h
        have h2 : (cmpI x y != 0) = true := by unfold cmpI; by_cases h3 : x < y <;> simp [h3]; omega
        rw [if_pos h1, if_pos h2]
        unfold cmpI
        by_cases h3 : x < y
        · simp [h3]
        · simp [h3]; split <;> omega
def impF (cov : Nat → Bool) (st : Nat → List Int) : Bool → List Int → List Nat → List Int
  | _, b, [] => b
  | f, b, x :: r => if ((!f || lessB (st x) b) && cov x) = true then impF cov st true (st x) r else impF cov st f b r
def speF (cov : Nat → Bool) (st : Nat → List Int) : List Int → List Nat → List Int
  | b, [] => b
  | b, x :: r => if (cov x && lessB (st x) b) = true then speF cov st (st x) r else speF cov st b r
theorem imp_spe2 {cov : Nat → Bool} {st : Nat → List Int} {z : Nat} (xs : List Nat) (hz : ∀ x ∈ xs, lessB (st z) (st x) = false) (b : List Int) (hb : lessB (st z) b = false) : impF cov st true b (xs ++ [z]) = speF cov st b xs := by
  induction xs generalizing b with
  | nil => simp [impF, speF, hb]
  | cons x r ih =>
    rw [List.cons_append]
    unfold impF speF
    rw [show (!true || lessB (st x) b) = lessB (st x) b by simp, Bool.and_comm]
    split
    · exact ih (fun y hy => hz y (List.mem_cons_of_mem _ hy)) _ (hz x List.mem_cons_self)
    · exact ih (fun y hy => hz y (List.mem_cons_of_mem _ hy)) _ hb
theorem imp_spe {cov : Nat → Bool} {st : Nat → List Int} {z : Nat} (hc : cov z = true) (xs : List Nat) (hz : ∀ x ∈ xs, lessB (st z) (st x) = false) (hx : ∀ x ∈ xs, lessB (st x) (st z) = true) (b : List Int) : impF cov st false b (xs ++ [z]) = speF cov st (st z) xs := by
  induction xs with
  | nil => simp [impF, speF, hc]
  | cons x r ih =>
    rw [List.cons_append]
    unfold impF speF
    rw [show (!false || lessB (st x) b) = true by simp, Bool.true_and, hx x List.mem_cons_self, Bool.and_true]
    split
    · exact imp_spe2 r (fun y hy => hz y (List.mem_cons_of_mem _ hy)) _ (hz x List.mem_cons_self)
    · exact ih (fun y hy => hz y (List.mem_cons_of_mem _ hy)) (fun y hy => hx y (List.mem_cons_of_mem _ hy))
theorem set_small : ∀ n, n ≤ 5 → ∀ b, b < 2 ^ n - 1 → (setG b 0 n).length < (setG (2 ^ n - 1) 0 n).length := by
  have h : ∀ n : Fin 6, ∀ b : Fin 32, b.val < 2 ^ n.val - 1 → (setG b.val 0 n.val).length < (setG (2 ^ n.val - 1) 0 n.val).length := by decide
  intro n hn b hb
  have h32 : 2 ^ n ≤ 2 ^ 5 := Nat.pow_le_pow_right (by omega) hn
  exact h ⟨n, by omega⟩ ⟨b, by omega⟩ hb
def fewCov (l : List Dsc) (N b : Nat) : Bool := decide (reachF l b 0 N = reachF l (2 ^ l.length - 1) 0 N)
def fewE (l : List Dsc) : List Int × Int := if dumpsOk l = true then (speF (fewCov l (l.headD default).secs.length) (fun b => setG b 0 l.length) (setG (2 ^ l.length - 1) 0 l.length) (List.range (2 ^ l.length - 1)), 0) else ([], 1)
theorem few_imp {l : List Dsc} {N : Nat} (h5 : l.length ≤ 5) : impF (fun b => covF l (setG b 0 l.length) 0 N) (fun b => setG b 0 l.length) false [] (List.range (2 ^ l.length)) = speF (fewCov l N) (fun b => setG b 0 l.length) (setG (2 ^ l.length - 1) 0 l.length) (List.range (2 ^ l.length - 1)) := by
  have e : 2 ^ l.length = (2 ^ l.length - 1) + 1 := by have : 0 < 2 ^ l.length := Nat.pow_pos (by omega); omega
  have e2 : List.range (2 ^ l.length) = List.range (2 ^ l.length - 1) ++ [2 ^ l.length - 1] := by
    conv => lhs; rw [e]
    exact List.range_succ
  have e3 : (fun b => covF l (setG b 0 l.length) 0 N) = fewCov l N := funext fun b => cov_reach l b 0 N
  rw [e2, e3]
  refine imp_spe (st := fun b => setG b 0 l.length) (z := 2 ^ l.length - 1) (by unfold fewCov; exact decide_eq_true rfl) _ (fun x hx => ?_) (fun x hx => ?_) []
  · have h := set_small l.length h5 x (List.mem_range.1 hx)
    show lessB (setG _ _ _) (setG _ _ _) = false
    unfold lessB
    rw [if_neg (by simp; omega)]
    exact decide_eq_false (by omega)
  · have h := set_small l.length h5 x (List.mem_range.1 hx)
    show lessB (setG _ _ _) (setG _ _ _) = true
    unfold lessB
    rw [if_neg (by simp; omega)]
    exact decide_eq_true (by omega)
theorem spe_len {cov : Nat → Bool} {st : Nat → List Int} {n : Nat} (h : ∀ x, (st x).length ≤ n) (b : List Int) (hb : b.length ≤ n) (xs : List Nat) : (speF cov st b xs).length ≤ n := by
  induction xs generalizing b with
  | nil => exact hb
  | cons x r ih =>
    unfold speF
    split
    · exact ih _ (h x)
    · exact ih _ hb
theorem few_len (l : List Dsc) (hn : l.length ≤ 1048576) : (fewE l).1.length ≤ 1048576 := by
  unfold fewE
  split
  · exact Nat.le_trans (spe_len (fun x => set_len _ _ _) _ (set_len _ _ _) _) hn
  · simp
theorem bit_and (b k : Nat) (hb : b < 9223372036854775808) : bits .and .i64 ((b : Int) / 2 ^ k) 1 = if b.testBit k = true then 1 else 0 := by
  have e : ((b : Int) / 2 ^ k) = ((b / 2 ^ k : Nat) : Int) := by push_cast; rfl
  have h : b / 2 ^ k < 9223372036854775808 := Nat.lt_of_le_of_lt (Nat.div_le_self _ _) hb
  rw [e, show (1 : Int) = ((1 : Nat) : Int) from rfl, i64_and_nat _ 1 h (by omega), Nat.and_one_is_mod, testBit_div]
  rcases Nat.mod_two_eq_zero_or_one (b / 2 ^ k) with h | h <;> rw [h] <;> rfl
end Go.Proofs.Ytignjjkldmninaa
