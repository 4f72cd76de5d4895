/- Equations over two values: the solutions of a list of them, what a solved list is, and how many rows it has. Plain Lean, no program. -/
namespace Go.Proofs.YthchdbjgjnpooaaDoor
set_option linter.unusedVariables false
set_option linter.unusedSimpArgs false

structure Rw where
  m : Nat
  r : Bool
instance : Inhabited Rw := ⟨⟨0, false⟩⟩
theorem Rw.ext' {a b : Rw} (h1 : a.m = b.m) (h2 : a.r = b.r) : a = b := by cases a; cases b; simp_all
def Rw.add (a b : Rw) : Rw := ⟨a.m ^^^ b.m, a.r ^^ b.r⟩

def dotN : Nat → Nat → (Nat → Bool) → Bool
  | 0, _, _ => false
  | n + 1, m, x => dotN n m x ^^ (m.testBit n && x n)
def dot (m : Nat) (x : Nat → Bool) : Bool := dotN 64 m x
def upd (x : Nat → Bool) (k : Nat) (b : Bool) : Nat → Bool := fun j => if j = k then b else x j
theorem upd_same (x : Nat → Bool) (k : Nat) (b : Bool) : upd x k b k = b := by simp [upd]
theorem upd_far {x : Nat → Bool} {j k : Nat} {b : Bool} (h : j ≠ k) : upd x k b j = x j := by simp [upd, h]
theorem dotN_xor (n a b : Nat) (x : Nat → Bool) : dotN n (a ^^^ b) x = (dotN n a x ^^ dotN n b x) := by
  induction n with
  | zero => rfl
  | succ n ih =>
    simp only [dotN, ih, Nat.testBit_xor]
    cases dotN n a x <;> cases dotN n b x <;> cases a.testBit n <;> cases b.testBit n <;> cases x n <;> rfl
theorem dotN_congr {n m : Nat} {x y : Nat → Bool} (h : ∀ k, k < n → m.testBit k = true → x k = y k) : dotN n m x = dotN n m y := by
  induction n with
  | zero => rfl
  | succ n ih =>
    simp only [dotN, ih (fun k hk => h k (by omega))]
    cases hb : m.testBit n with
    | false => simp
    | true => rw [h n (by omega) hb]
theorem dotN_zero (n : Nat) (x : Nat → Bool) : dotN n 0 x = false := by
  induction n with
  | zero => rfl
  | succ n ih => simp [dotN, ih]
theorem dotN_upd {n k : Nat} (m : Nat) (x : Nat → Bool) (b : Bool) (hk : k < n) : dotN n m (upd x k b) = (dotN n m x ^^ (m.testBit k && (x k ^^ b))) := by
  induction n with
  | zero => omega
  | succ n ih =>
    simp only [dotN]
    by_cases e : k = n
    · subst e
      rw [upd_same, dotN_congr (y := x) (fun j hj _ => upd_far (by omega))]
      cases dotN k m x <;> cases m.testBit k <;> cases x k <;> cases b <;> rfl
    · rw [ih (by omega), upd_far (by omega : n ≠ k)]
      cases dotN n m x <;> cases m.testBit k <;> cases x k <;> cases b <;> cases (m.testBit n && x n) <;> rfl
theorem dotN_le {n N m : Nat} {x : Nat → Bool} (hn : n ≤ N) (hm : m < 2 ^ n) : dotN N m x = dotN n m x := by
  induction N with
  | zero => rw [show n = 0 by omega]
  | succ N ih =>
    by_cases e : n = N + 1
    · rw [e]
    · have : m.testBit N = false := Nat.testBit_lt_two_pow (Nat.lt_of_lt_of_le hm (Nat.pow_le_pow_right (by omega) (by omega)))
      simp only [dotN, ih (by omega), this, Bool.false_and, Bool.xor_false]

theorem dot_xor (a b : Nat) (x : Nat → Bool) : dot (a ^^^ b) x = (dot a x ^^ dot b x) := dotN_xor _ _ _ _
theorem dot_congr {m : Nat} {x y : Nat → Bool} (h : ∀ k, k < 64 → m.testBit k = true → x k = y k) : dot m x = dot m y := dotN_congr h
theorem dot_zero (x : Nat → Bool) : dot 0 x = false := dotN_zero _ _
theorem dot_upd {k : Nat} (m : Nat) (x : Nat → Bool) (b : Bool) (hk : k < 64) : dot m (upd x k b) = (dot m x ^^ (m.testBit k && (x k ^^ b))) := dotN_upd _ _ _ hk
theorem dot_off {k m : Nat} {x : Nat → Bool} {b : Bool} (h : m.testBit k = false) : dot m (upd x k b) = dot m x := dot_congr fun j _ hb => upd_far (by intro e; rw [e, h] at hb; cases hb)
def Sol (l : List Rw) (x : Nat → Bool) : Prop := ∀ e ∈ l, dot e.m x = e.r
theorem Sol.cons {e : Rw} {l : List Rw} {x : Nat → Bool} : Sol (e :: l) x ↔ dot e.m x = e.r ∧ Sol l x := by simp [Sol]
theorem Sol.app {a b : List Rw} {x : Nat → Bool} : Sol (a ++ b) x ↔ Sol a x ∧ Sol b x := by
  simp only [Sol, List.mem_append]; exact ⟨fun h => ⟨fun e he => h e (.inl he), fun e he => h e (.inr he)⟩, fun h e he => he.elim (h.1 e) (h.2 e)⟩
theorem Sol.nil {x : Nat → Bool} : Sol [] x := by intro e h; cases h
theorem dot_add {a b : Rw} {x : Nat → Bool} (hb : dot b.m x = b.r) : (dot (a.add b).m x = (a.add b).r) ↔ dot a.m x = a.r := by
  simp only [Rw.add, dot_xor]
  rw [hb]
  cases dot a.m x <;> cases a.r <;> cases b.r <;> simp
theorem Sol.congr {l : List Rw} {x y : Nat → Bool} (h : ∀ k, k < 64 → x k = y k) (hs : Sol l x) : Sol l y := fun e he => by
  rw [← hs e he]; exact dot_congr (fun k hk _ => (h k hk).symm)

/-- which bit of a number that is not 0 leads its row -/
structure Piv (p : Nat → Nat) : Prop where
  on : ∀ m, m ≠ 0 → m.testBit (p m) = true
  keep : ∀ a b, a.testBit (p a) = true → b.testBit (p a) = false → b ≠ 0 → a.testBit (p b) = true → p (a ^^^ b) = p a
/-- a solved list: the leading bit of each row is in no other row -/
structure Red (p : Nat → Nat) (l : List Rw) : Prop where
  on : ∀ e ∈ l, e.m.testBit (p e.m) = true
  lt : ∀ e ∈ l, e.m < 2 ^ 64
  sep : l.Pairwise fun a b => b.m.testBit (p a.m) = false ∧ a.m.testBit (p b.m) = false
theorem Red.nil {p : Nat → Nat} : Red p [] := ⟨fun _ h => (by cases h), fun _ h => (by cases h), List.Pairwise.nil⟩
theorem Red.tail {p : Nat → Nat} {e : Rw} {l : List Rw} (h : Red p (e :: l)) : Red p l :=
  ⟨fun a ha => h.on a (by simp [ha]), fun a ha => h.lt a (by simp [ha]), (List.pairwise_cons.1 h.sep).2⟩
theorem bit_lt {m k : Nat} (h : m < 2 ^ 64) (hb : m.testBit k = true) : k < 64 := by
  apply Classical.byContradiction; intro hk
  rw [Nat.testBit_lt_two_pow (Nat.lt_of_lt_of_le h (Nat.pow_le_pow_right (by omega) (by omega)))] at hb; cases hb
theorem Red.plt {p : Nat → Nat} {l : List Rw} (h : Red p l) {e : Rw} (he : e ∈ l) : p e.m < 64 := bit_lt (h.lt e he) (h.on e he)
def isP (p : Nat → Nat) (l : List Rw) (k : Nat) : Bool := l.any fun e => p e.m == k
theorem isP_iff {p : Nat → Nat} {l : List Rw} {k : Nat} : isP p l k = true ↔ ∃ e ∈ l, p e.m = k := by simp [isP]
/-- whatever stands in the free bits, there is a solution -/
theorem Red.sol {p : Nat → Nat} {l : List Rw} (h : Red p l) (a : Nat → Bool) : ∃ x, Sol l x ∧ ∀ k, isP p l k = false → x k = a k := by
  induction l with
  | nil => exact ⟨a, Sol.nil, fun _ _ => rfl⟩
  | cons e l ih =>
    obtain ⟨x, hs, hf⟩ := ih h.tail
    have hk := h.plt (e := e) (by simp)
    have hon := h.on e (by simp)
    refine ⟨upd x (p e.m) (x (p e.m) ^^ dot e.m x ^^ e.r), Sol.cons.2 ⟨?_, fun b hb => ?_⟩, fun k hp => ?_⟩
    · rw [dot_upd _ _ _ hk, hon]
      cases dot e.m x <;> cases x (p e.m) <;> cases e.r <;> rfl
    · have := ((List.pairwise_cons.1 h.sep).1 b hb).1
      rw [dot_off this]
      exact hs b hb
    · simp only [isP, List.any_cons, Bool.or_eq_false_iff] at hp
      have : k ≠ p e.m := by intro e2; rw [e2] at hp; simp at hp
      rw [upd_far this]; exact hf k hp.2
theorem Red.other {p : Nat → Nat} {l : List Rw} (h : Red p l) {a b : Rw} (ha : a ∈ l) (hb : b ∈ l) (hne : a ≠ b) : b.m.testBit (p a.m) = false := by
  induction l with
  | nil => cases ha
  | cons e l ih =>
    have hp := List.pairwise_cons.1 h.sep
    rcases List.mem_cons.1 ha with rfl | ha'
    · rcases List.mem_cons.1 hb with rfl | hb'
      · exact absurd rfl hne
      · exact (hp.1 b hb').1
    · rcases List.mem_cons.1 hb with rfl | hb'
      · exact (hp.1 a ha').2
      · exact ih h.tail ha' hb'
/-- a row with a leading bit bears no other leading bit -/
theorem Red.only {p : Nat → Nat} {l : List Rw} (h : Red p l) {e : Rw} (he : e ∈ l) {k : Nat} (hb : e.m.testBit k = true) (hk : k ≠ p e.m) : isP p l k = false := by
  rw [Bool.eq_false_iff]; intro hp
  obtain ⟨a, ha, rfl⟩ := isP_iff.1 hp
  have : a ≠ e := by intro e2; rw [e2] at hk; exact hk rfl
  rw [h.other ha he this] at hb; cases hb
/-- the free bits tell the solution -/
theorem Red.uniq {p : Nat → Nat} {l : List Rw} (h : Red p l) {x y : Nat → Bool} (hx : Sol l x) (hy : Sol l y) (hf : ∀ k, k < 64 → isP p l k = false → x k = y k) : ∀ k, k < 64 → x k = y k := by
  intro k hk
  cases hp : isP p l k with
  | false => exact hf k hk hp
  | true =>
    obtain ⟨e, he, rfl⟩ := isP_iff.1 hp
    have hon := h.on e he
    have e1 := hx e he
    have e2 := hy e he
    have e3 : dot e.m (upd x (p e.m) (y (p e.m))) = dot e.m y := dot_congr (fun j hj hb => by
      by_cases ej : j = p e.m
      · rw [ej, upd_same]
      · rw [upd_far ej]; exact hf j hj (h.only he hb ej))
    rw [dot_upd _ _ _ hk, hon, e1, e2] at e3
    revert e3
    cases x (p e.m) <;> cases y (p e.m) <;> cases e.r <;> simp

/-- how many of the values of the first n bits have a property -/
def cntB : Nat → ((Nat → Bool) → Bool) → Nat
  | 0, f => if f (fun _ => false) then 1 else 0
  | n + 1, f => cntB n (fun x => f (upd x n false)) + cntB n (fun x => f (upd x n true))
theorem cntB_split (n : Nat) (f g : (Nat → Bool) → Bool) : cntB n f = cntB n (fun x => f x && g x) + cntB n (fun x => f x && !g x) := by
  induction n generalizing f g with
  | zero => show (if f (fun _ => false) then 1 else 0) = (if (f (fun _ => false) && g (fun _ => false)) then 1 else 0) + (if (f (fun _ => false) && !g (fun _ => false)) then 1 else 0); generalize f (fun _ => false) = a; generalize g (fun _ => false) = b; revert a b; decide
  | succ n ih => simp only [cntB]; rw [ih _ (fun x => g (upd x n false)), ih (fun x => f (upd x n true)) (fun x => g (upd x n true))]; omega
theorem cntB_flip {n k : Nat} (f : (Nat → Bool) → Bool) (hk : k < n) : cntB n (fun x => f (upd x k (!x k))) = cntB n f := by
  induction n generalizing f with
  | zero => omega
  | succ n ih =>
    simp only [cntB]
    by_cases e : k = n
    · subst e
      have h1 : ∀ (b : Bool) (x : Nat → Bool), upd (upd x k b) k (!(upd x k b) k) = upd x k (!b) := fun b x => by
        funext j; simp only [upd]; split <;> simp
      simp only [h1, Bool.not_false, Bool.not_true]; omega
    · have h1 : ∀ (b : Bool) (x : Nat → Bool), upd (upd x n b) k (!(upd x n b) k) = upd (upd x k (!x k)) n b := fun b x => by
        funext j; simp only [upd]; rw [if_neg e]; by_cases j1 : j = k <;> by_cases j2 : j = n <;> simp [j1, j2] <;> omega
      simp only [h1]
      rw [ih (fun x => f (upd x n false)) (by omega), ih (fun x => f (upd x n true)) (by omega)]
theorem cntB_congr {n : Nat} {f g : (Nat → Bool) → Bool} (h : ∀ x, f x = g x) : cntB n f = cntB n g := by rw [show f = g from funext h]
theorem cntB_true (n : Nat) : cntB n (fun _ => true) = 2 ^ n := by
  induction n with
  | zero => rfl
  | succ n ih => simp only [cntB, ih]; omega
def solB (l : List Rw) (x : Nat → Bool) : Bool := l.all fun e => dot e.m x == e.r
theorem solB_iff {l : List Rw} {x : Nat → Bool} : solB l x = true ↔ Sol l x := by simp [solB, Sol]
theorem Red.cnt {p : Nat → Nat} {l : List Rw} {N : Nat} (hN : 64 ≤ N) (h : Red p l) : cntB N (solB l) * 2 ^ l.length = 2 ^ N := by
  induction l with
  | nil =>
    have e : solB [] = fun _ => true := rfl
    rw [e, cntB_true, List.length_nil, Nat.pow_zero, Nat.mul_one]
  | cons e l ih =>
    have hk := h.plt (e := e) (by simp)
    have hon := h.on e (by simp)
    have h1 := cntB_split N (solB l) (fun x => dot e.m x == e.r)
    have h2 := cntB_flip (n := N) (fun x => solB l x && !(dot e.m x == e.r)) (Nat.lt_of_lt_of_le hk hN)
    have h3 : ∀ x, (solB l (upd x (p e.m) (!x (p e.m))) && !(dot e.m (upd x (p e.m) (!x (p e.m))) == e.r)) = (solB l x && (dot e.m x == e.r)) := fun x => by
      have : solB l (upd x (p e.m) (!x (p e.m))) = solB l x := by
        simp only [solB]
        rw [Bool.eq_iff_iff]
        simp only [List.all_eq_true]
        refine forall_congr' fun b => forall_congr' fun hb => ?_
        have := ((List.pairwise_cons.1 h.sep).1 b hb).1
        rw [dot_off this]
      rw [this, dot_upd _ _ _ hk, hon]
      cases solB l x <;> cases dot e.m x <;> cases x (p e.m) <;> cases e.r <;> rfl
    rw [cntB_congr h3] at h2
    have h4 : cntB N (solB (e :: l)) = cntB N (fun x => solB l x && (dot e.m x == e.r)) := cntB_congr fun x => by simp only [solB, List.all_cons, Bool.and_comm]
    have := ih h.tail
    rw [h4, List.length_cons, Nat.pow_succ, ← Nat.mul_assoc]
    rw [h1, ← h2] at this
    rw [← this, Nat.add_mul]; omega
/-- two solved lists with the same solutions have the same number of rows -/
theorem red_lenN {p q : Nat → Nat} {a b : List Rw} {N : Nat} (hN : 64 ≤ N) (ha : Red p a) (hb : Red q b) (h : ∀ x, Sol a x ↔ Sol b x) : a.length = b.length := by
  have e : cntB N (solB a) = cntB N (solB b) := cntB_congr fun x => by rw [Bool.eq_iff_iff, solB_iff, solB_iff]; exact h x
  have h1 := ha.cnt hN
  have h2 := hb.cnt hN
  rw [e] at h1
  have h3 : 0 < cntB N (solB b) := Nat.pos_of_ne_zero (by intro h0; rw [h0, Nat.zero_mul] at h2; have := Nat.two_pow_pos N; omega)
  exact (Nat.pow_right_inj (by omega : 1 < 2)).1 (Nat.eq_of_mul_eq_mul_left h3 (h1.trans h2.symm))
theorem red_len {p q : Nat → Nat} {a b : List Rw} (ha : Red p a) (hb : Red q b) (h : ∀ x, Sol a x ↔ Sol b x) : a.length = b.length := red_lenN (Nat.le_refl 64) ha hb h
end Go.Proofs.YthchdbjgjnpooaaDoor
