/- None of the fewest dumps is superfluous; a dump with most good sectors: the plain law of FnFewest. -/
import Derived.Test.YtignjjkldmninaaFewLaw
namespace Go.Proofs.Ytignjjkldmninaa
set_option linter.unusedVariables false
open Go.RowKit
theorem less_len {a b : List Int} (h : lessB a b = true) : a.length ≤ b.length := by
  unfold lessB at h
  by_cases e : a.length = b.length
  · omega
  · rw [if_neg (by simpa using e)] at h; simp at h; omega
theorem nless_len {a b : List Int} (h : lessB a b = false) : b.length ≤ a.length := by
  unfold lessB at h
  by_cases e : a.length = b.length
  · omega
  · rw [if_neg (by simpa using e)] at h; simp at h; omega
theorem spe_min {cov : Nat → Bool} {st : Nat → List Int} (xs : List Nat) (b : List Int) :
    (speF cov st b xs = b ∨ ∃ x ∈ xs, cov x = true ∧ speF cov st b xs = st x) ∧ (speF cov st b xs).length ≤ b.length ∧ ∀ x ∈ xs, cov x = true → (speF cov st b xs).length ≤ (st x).length := by
  induction xs generalizing b with
  | nil => exact ⟨.inl rfl, Nat.le_refl _, fun x h => by cases h⟩
  | cons y r ih =>
    unfold speF
    by_cases h : (cov y && lessB (st y) b) = true
    · rw [if_pos h]
      obtain ⟨h1, h2, h3⟩ := ih (st y)
      rw [Bool.and_eq_true] at h
      refine ⟨.inr ?_, Nat.le_trans h2 (less_len h.2), fun x hx hc => ?_⟩
      · rcases h1 with h1 | ⟨x, hx, hc, h1⟩
        · exact ⟨y, List.mem_cons_self, h.1, h1⟩
        · exact ⟨x, List.mem_cons_of_mem _ hx, hc, h1⟩
      · rcases List.mem_cons.1 hx with rfl | hx
        · exact h2
        · exact h3 x hx hc
    · rw [if_neg h]
      obtain ⟨h1, h2, h3⟩ := ih b
      refine ⟨?_, h2, fun x hx hc => ?_⟩
      · rcases h1 with h1 | ⟨x, hx, hc, h1⟩
        · exact .inl h1
        · exact .inr ⟨x, List.mem_cons_of_mem _ hx, hc, h1⟩
      · rcases List.mem_cons.1 hx with rfl | hx
        · rw [hc, Bool.true_and, Bool.not_eq_true] at h
          exact Nat.le_trans h2 (nless_len h)
        · exact h3 x hx hc
/-- how many sectors are good in one of some dumps, as the law counts them -/
def rchL (l : List Dsc) (s : List Int) (k : Nat) : Bool := s.any fun i => ((l.getD i.toNat default).secs.getD k secZ).state == 1
def d8R (l : List Dsc) (s : List Int) : Nat → Nat → Nat
  | _, 0 => 0
  | k, n + 1 => (if rchL l s k = true then 1 else 0) + d8R l s (k + 1) n
theorem rchL_set {l : List Dsc} {b k : Nat} : rchL l (setG b 0 l.length) k = rchG b k 0 l := by
  rw [Bool.eq_iff_iff, rch_iff, rchL, List.any_eq_true]
  constructor
  · rintro ⟨x, h1, h2⟩
    obtain ⟨i, _, hi, hb, rfl⟩ := set_mem.1 h1
    have hi' : i < l.length := by omega
    refine ⟨i, l[i], List.getElem?_eq_getElem hi', by rw [Nat.zero_add]; exact hb, ?_⟩
    simpa [List.getD_eq_getElem?_getD, List.getElem?_eq_getElem hi'] using h2
  · rintro ⟨j, d, h1, h2, h3⟩
    obtain ⟨hj, rfl⟩ := List.getElem?_eq_some_iff.1 h1
    rw [Nat.zero_add] at h2
    refine ⟨(j : Int), set_mem.2 ⟨j, by omega, by omega, h2, rfl⟩, ?_⟩
    simpa [List.getD_eq_getElem?_getD, List.getElem?_eq_getElem hj] using h3
theorem d8R_set (l : List Dsc) (b k n : Nat) : d8R l (setG b 0 l.length) k n = reachF l b k n := by
  induction n generalizing k with
  | zero => rfl
  | succ n ih => unfold d8R reachF; rw [ih, rchL_set]
theorem d8R_n (l : List Dsc) (s : List Int) (k n : Nat) : d8R l s k n ≤ n := by
  induction n generalizing k with
  | zero => exact Nat.le_refl _
  | succ n ih => have := ih (k + 1); unfold d8R; split <;> omega
theorem set_srt (b k m : Nat) : (setG b k m).Pairwise (· < ·) := by
  induction m generalizing k with
  | zero => exact List.Pairwise.nil
  | succ m ih =>
    unfold setG; split
    · refine List.pairwise_cons.2 ⟨fun x hx => ?_, ih _⟩
      obtain ⟨i, h1, _, _, rfl⟩ := set_mem.1 hx
      omega
    · exact ih _
theorem all_set (n : Nat) : (List.range n).map (fun i : Nat => (i : Int)) = setG (2 ^ n - 1) 0 n := by
  have gen : ∀ (m k N : Nat), k + m = N → (List.range' k m).map (fun i : Nat => (i : Int)) = setG (2 ^ N - 1) k m := by
    intro m
    induction m with
    | zero => intro k N _; rfl
    | succ m ih =>
      intro k N h
      unfold setG
      rw [if_pos (by rw [Nat.testBit_two_pow_sub_one]; exact decide_eq_true (by omega)), List.range'_succ, List.map_cons, ih (k + 1) N (by omega)]
  rw [List.range_eq_range', gen n 0 n (by omega)]
/-- a set without one of its members is a set -/
theorem set_erase {b i n : Nat} (hi : i < (setG b 0 n).length) : ∃ b', b' < 2 ^ n ∧ (setG b 0 n).take i ++ (setG b 0 n).drop (i + 1) = setG b' 0 n := by
  obtain ⟨x, hx1, hx2, hxb, hx⟩ := set_mem.1 (List.getElem_mem hi)
  refine ⟨(b % 2 ^ n) &&& (2 ^ n - 1 - 2 ^ x), Nat.lt_of_le_of_lt Nat.and_le_left (Nat.mod_lt _ (Nat.two_pow_pos n)), ?_⟩
  have hxn : x < n := by omega
  have hp : 2 ^ x ≤ 2 ^ n - 1 := by have := Nat.pow_lt_pow_right (a := 2) (by omega) hxn; omega
  have hbit : ∀ j, j < n → ((b % 2 ^ n) &&& (2 ^ n - 1 - 2 ^ x)).testBit j = (b.testBit j && !(decide (j = x))) := fun j hj => by
    rw [Nat.testBit_and, Nat.testBit_mod_two_pow, decide_eq_true hj, Bool.true_and]
    have h1 : 2 ^ n - 1 - 2 ^ x = 2 ^ n - (2 ^ x + 1) := by omega
    rw [h1, Nat.testBit_two_pow_sub_succ (Nat.pow_lt_pow_right (by omega) hxn), decide_eq_true hj, Bool.true_and, Nat.testBit_two_pow]
    congr 2
    apply decide_eq_decide.2
    omega
  -- sorted lists with the same members
  have ext : ∀ (a c : List Int), a.Pairwise (· < ·) → c.Pairwise (· < ·) → (∀ y, y ∈ a ↔ y ∈ c) → a = c := by
    intro a
    induction a with
    | nil => intro c _ _ h; cases c with
      | nil => rfl
      | cons f c => exact absurd ((h f).2 (by simp)) (by simp)
    | cons e a ih =>
      intro c ha hc h
      cases c with
      | nil => exact absurd ((h e).1 (by simp)) (by simp)
      | cons f c =>
        obtain ⟨ha1, ha2⟩ := List.pairwise_cons.1 ha
        obtain ⟨hb1, hb2⟩ := List.pairwise_cons.1 hc
        have ef : e = f := by
          rcases List.mem_cons.1 ((h e).1 (by simp)) with h1 | h1
          · exact h1
          · rcases List.mem_cons.1 ((h f).2 (by simp)) with h2 | h2
            · exact h2.symm
            · have := hb1 e h1; have := ha1 f h2; omega
        subst ef
        rw [ih c ha2 hb2 fun g => ?_]
        constructor
        · intro hg
          rcases List.mem_cons.1 ((h g).1 (by simp [hg])) with h1 | h1
          · rw [h1] at hg; have := ha1 e hg; omega
          · exact h1
        · intro hg
          rcases List.mem_cons.1 ((h g).2 (by simp [hg])) with h1 | h1
          · rw [h1] at hg; have := hb1 e hg; omega
          · exact h1
  have hs := set_srt b 0 n
  refine ext _ _ ?_ (set_srt _ _ _) fun y => ?_
  · refine List.pairwise_append.2 ⟨hs.sublist (List.take_sublist _ _), hs.sublist (List.drop_sublist _ _), fun u hu v hv => ?_⟩
    obtain ⟨p, hp, rfl⟩ := List.getElem_of_mem hu
    obtain ⟨q, hq, rfl⟩ := List.getElem_of_mem hv
    rw [List.getElem_take, List.getElem_drop]
    simp at hp hq
    exact List.pairwise_iff_getElem.1 hs p (i + 1 + q) (by omega) (by omega) (by omega)
  · have hsplit : ∀ y, y ∈ setG b 0 n ↔ (y ∈ (setG b 0 n).take i ++ (setG b 0 n).drop (i + 1)) ∨ y = (x : Int) := fun y => by
      conv => lhs; rw [← List.take_append_drop i (setG b 0 n), List.drop_eq_getElem_cons hi, hx]
      simp only [List.mem_append, List.mem_cons]
      constructor
      · rintro (h | h | h)
        · exact .inl (.inl h)
        · exact .inr h
        · exact .inl (.inr h)
      · rintro ((h | h) | h)
        · exact .inl h
        · exact .inr (.inr h)
        · exact .inr (.inl h)
    have hnot : (x : Int) ∉ (setG b 0 n).take i ++ (setG b 0 n).drop (i + 1) := by
      intro h
      rcases List.mem_append.1 h with h | h
      · obtain ⟨p, hp, e⟩ := List.getElem_of_mem h
        rw [List.getElem_take, ← hx] at e
        simp at hp
        have := List.pairwise_iff_getElem.1 hs p i (by omega) hi (by omega)
        omega
      · obtain ⟨q, hq, e⟩ := List.getElem_of_mem h
        rw [List.getElem_drop, ← hx] at e
        simp at hq
        have := List.pairwise_iff_getElem.1 hs i (i + 1 + q) hi (by omega) (by omega)
        omega
    constructor
    · intro hy
      obtain ⟨j, _, hj, hb, rfl⟩ := set_mem.1 ((hsplit y).2 (.inl hy))
      refine set_mem.2 ⟨j, by omega, hj, ?_, rfl⟩
      rw [hbit j (by omega), hb, Bool.true_and]
      have : j ≠ x := by intro e; rw [e] at hy; exact hnot hy
      simp [this]
    · intro hy
      obtain ⟨j, _, hj, hb, rfl⟩ := set_mem.1 hy
      rw [hbit j (by omega), Bool.and_eq_true] at hb
      have hne : j ≠ x := by simpa using hb.2
      rcases (hsplit (j : Int)).1 (set_mem.2 ⟨j, by omega, hj, hb.1, rfl⟩) with h | h
      · exact h
      · omega
theorem set_len_erase {b i n : Nat} (hi : i < (setG b 0 n).length) : ((setG b 0 n).take i ++ (setG b 0 n).drop (i + 1)).length + 1 = (setG b 0 n).length := by simp; omega
/-- the chosen set: indices that rise, that reach all, and none too many -/
theorem few_law {l : List Dsc} {N : Nat} (h5 : l.length ≤ 5) :
    ∃ b, b < 2 ^ l.length ∧ speF (fewCov l N) (fun b => setG b 0 l.length) (setG (2 ^ l.length - 1) 0 l.length) (List.range (2 ^ l.length - 1)) = setG b 0 l.length ∧ reachF l b 0 N = reachF l (2 ^ l.length - 1) 0 N ∧
      ∀ i, i < (setG b 0 l.length).length → d8R l ((setG b 0 l.length).take i ++ (setG b 0 l.length).drop (i + 1)) 0 N ≠ reachF l (2 ^ l.length - 1) 0 N := by
  obtain ⟨h1, h2, h3⟩ := spe_min (cov := fewCov l N) (st := fun b => setG b 0 l.length) (List.range (2 ^ l.length - 1)) (setG (2 ^ l.length - 1) 0 l.length)
  have hpos : 0 < 2 ^ l.length := Nat.two_pow_pos _
  obtain ⟨b, hb, he, hr⟩ : ∃ b, b < 2 ^ l.length ∧ speF (fewCov l N) (fun b => setG b 0 l.length) (setG (2 ^ l.length - 1) 0 l.length) (List.range (2 ^ l.length - 1)) = setG b 0 l.length ∧ reachF l b 0 N = reachF l (2 ^ l.length - 1) 0 N := by
    rcases h1 with h1 | ⟨x, hx, hc, h1⟩
    · exact ⟨2 ^ l.length - 1, by omega, h1, rfl⟩
    · exact ⟨x, by have := List.mem_range.1 hx; omega, h1, by unfold fewCov at hc; simpa using hc⟩
  refine ⟨b, hb, he, hr, fun i hi hreach => ?_⟩
  obtain ⟨b', hb', e'⟩ := set_erase hi
  have hl := set_len_erase hi
  rw [e'] at hl hreach
  rw [d8R_set] at hreach
  rw [he] at h2 h3
  by_cases hlast : b' = 2 ^ l.length - 1
  · rw [← hlast] at h2; omega
  · have := h3 b' (List.mem_range.2 (by omega)) (by unfold fewCov; exact decide_eq_true hreach)
    omega
end Go.Proofs.Ytignjjkldmninaa
