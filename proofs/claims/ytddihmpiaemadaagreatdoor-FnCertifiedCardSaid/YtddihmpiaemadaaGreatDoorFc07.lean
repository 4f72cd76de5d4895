/- Equations over two values: the solutions of a list of them, what a solved list is, and how many rows it has. Plain Lean, no program. Two ways to solve equations over two values, and what they share. Plain Lean, no program. -/
namespace Go.Proofs.YtddihmpiaemadaaGreatDoor
set_option linter.unusedVariables false
set_option linter.unusedSimpArgs false

structure Rw where
  m : Nat
  r : Bool
instance : Inhabited Rw := ⟨⟨0, false⟩⟩
theorem Rw.ext' {a b : Rw} (h1 : a.m = b.m) (h2 : a.r = b.r) : a = b := by cases a; cases b; simp_all
def Rw.add (a b : Rw) : Rw := ⟨a.m ^^^ b.m, a.r ^^ b.r⟩

def dotN : Nat → Nat → (Nat → Bool) → Bool
  | 0, _, _ => false
  | n + 1, m, x => dotN n m x ^^ (m.testBit n && x n)
def dot (m : Nat) (x : Nat → Bool) : Bool := dotN 64 m x
def upd (x : Nat → Bool) (k : Nat) (b : Bool) : Nat → Bool := fun j => if j = k then b else x j
theorem upd_same (x : Nat → Bool) (k : Nat) (b : Bool) : upd x k b k = b := by simp [upd]
theorem upd_far {x : Nat → Bool} {j k : Nat} {b : Bool} (h : j ≠ k) : upd x k b j = x j := by simp [upd, h]
theorem dotN_xor (n a b : Nat) (x : Nat → Bool) : dotN n (a ^^^ b) x = (dotN n a x ^^ dotN n b x) := by
  induction n with
  | zero => rfl
  | succ n ih =>
    simp only [dotN, ih, Nat.testBit_xor]
    cases dotN n a x <;> cases dotN n b x <;> cases a.testBit n <;> cases b.testBit n <;> cases x n <;> rfl
theorem dotN_congr {n m : Nat} {x y : Nat → Bool} (h : ∀ k, k < n → m.testBit k = true → x k = y k) : dotN n m x = dotN n m y := by
  induction n with
  | zero => rfl
  | succ n ih =>
    simp only [dotN, ih (fun k hk => h k (by omega))]
    cases hb : m.testBit n with
    | false => simp
    | true => rw [h n (by omega) hb]
theorem dotN_zero (n : Nat) (x : Nat → Bool) : dotN n 0 x = false := by
  induction n with
  | zero => rfl
  | succ n ih => simp [dotN, ih]
theorem dotN_upd {n k : Nat} (m : Nat) (x : Nat → Bool) (b : Bool) (hk : k < n) : dotN n m (upd x k b) = (dotN n m x ^^ (m.testBit k && (x k ^^ b))) := by
  induction n with
  | zero => omega
  | succ n ih =>
    simp only [dotN]
    by_cases e : k = n
    · subst e
      rw [upd_same, dotN_congr (y := x) (fun j hj _ => upd_far (by omega))]
      cases dotN k m x <;> cases m.testBit k <;> cases x k <;> cases b <;> rfl
    · rw [ih (by omega), upd_far (by omega : n ≠ k)]
      cases dotN n m x <;> cases m.testBit k <;> cases x k <;> cases b <;> cases (m.testBit n && x n) <;> rfl
theorem dotN_le {n N m : Nat} {x : Nat → Bool} (hn : n ≤ N) (hm : m < 2 ^ n) : dotN N m x = dotN n m x := by
  induction N with
  | zero => rw [show n = 0 by omega]
  | succ N ih =>
    by_cases e : n = N + 1
    · rw [e]
    · have : m.testBit N = false := Nat.testBit_lt_two_pow (Nat.lt_of_lt_of_le hm (Nat.pow_le_pow_right (by omega) (by omega)))
      simp only [dotN, ih (by omega), this, Bool.false_and, Bool.xor_false]

theorem dot_xor (a b : Nat) (x : Nat → Bool) : dot (a ^^^ b) x = (dot a x ^^ dot b x) := dotN_xor _ _ _ _
theorem dot_congr {m : Nat} {x y : Nat → Bool} (h : ∀ k, k < 64 → m.testBit k = true → x k = y k) : dot m x = dot m y := dotN_congr h
theorem dot_zero (x : Nat → Bool) : dot 0 x = false := dotN_zero _ _
theorem dot_upd {k : Nat} (m : Nat) (x : Nat → Bool) (b : Bool) (hk : k < 64) : dot m (upd x k b) = (dot m x ^^ (m.testBit k && (x k ^^ b))) := dotN_upd _ _ _ hk
theorem dot_off {k m : Nat} {x : Nat → Bool} {b : Bool} (h : m.testBit k = false) : dot m (upd x k b) = dot m x := dot_congr fun j _ hb => upd_far (by intro e; rw [e, h] at hb; cases hb)
def Sol (l : List Rw) (x : Nat → Bool) : Prop := ∀ e ∈ l, dot e.m x = e.r
theorem Sol.cons {e : Rw} {l : List Rw} {x : Nat → Bool} : Sol (e :: l) x ↔ dot e.m x = e.r ∧ Sol l x := by simp [Sol]
theorem Sol.app {a b : List Rw} {x : Nat → Bool} : Sol (a ++ b) x ↔ Sol a x ∧ Sol b x := by
  simp only [Sol, List.mem_append]; exact ⟨fun h => ⟨fun e he => h e (.inl he), fun e he => h e (.inr he)⟩, fun h e he => he.elim (h.1 e) (h.2 e)⟩
theorem Sol.nil {x : Nat → Bool} : Sol [] x := by intro e h; cases h
theorem dot_add {a b : Rw} {x : Nat → Bool} (hb : dot b.m x = b.r) : (dot (a.add b).m x = (a.add b).r) ↔ dot a.m x = a.r := by
  simp only [Rw.add, dot_xor]
  rw [hb]
  cases dot a.m x <;> cases a.r <;> cases b.r <;> simp
theorem Sol.congr {l : List Rw} {x y : Nat → Bool} (h : ∀ k, k < 64 → x k = y k) (hs : Sol l x) : Sol l y := fun e he => by
  rw [← hs e he]; exact dot_congr (fun k hk _ => (h k hk).symm)

/-- which bit of a number that is not 0 leads its row -/
structure Piv (p : Nat → Nat) : Prop where
  on : ∀ m, m ≠ 0 → m.testBit (p m) = true
  keep : ∀ a b, a.testBit (p a) = true → b.testBit (p a) = false → b ≠ 0 → a.testBit (p b) = true → p (a ^^^ b) = p a
/-- a solved list: the leading bit of each row is in no other row -/
structure Red (p : Nat → Nat) (l : List Rw) : Prop where
  on : ∀ e ∈ l, e.m.testBit (p e.m) = true
  lt : ∀ e ∈ l, e.m < 2 ^ 64
  sep : l.Pairwise fun a b => b.m.testBit (p a.m) = false ∧ a.m.testBit (p b.m) = false
theorem Red.nil {p : Nat → Nat} : Red p [] := ⟨fun _ h => (by cases h), fun _ h => (by cases h), List.Pairwise.nil⟩
theorem Red.tail {p : Nat → Nat} {e : Rw} {l : List Rw} (h : Red p (e :: l)) : Red p l :=
  ⟨fun a ha => h.on a (by simp [ha]), fun a ha => h.lt a (by simp [ha]), (List.pairwise_cons.1 h.sep).2⟩
theorem bit_lt {m k : Nat} (h : m < 2 ^ 64) (hb : m.testBit k = true) : k < 64 := by
  apply Classical.byContradiction; intro hk
  rw [Nat.testBit_lt_two_pow (Nat.lt_of_lt_of_le h (Nat.pow_le_pow_right (by omega) (by omega)))] at hb; cases hb
theorem Red.plt {p : Nat → Nat} {l : List Rw} (h : Red p l) {e : Rw} (he : e ∈ l) : p e.m < 64 := bit_lt (h.lt e he) (h.on e he)
def isP (p : Nat → Nat) (l : List Rw) (k : Nat) : Bool := l.any fun e => p e.m == k
theorem isP_iff {p : Nat → Nat} {l : List Rw} {k : Nat} : isP p l k = true ↔ ∃ e ∈ l, p e.m = k := by simp [isP]
/-- whatever stands in the free bits, there is a solution -/
theorem Red.sol {p : Nat → Nat} {l : List Rw} (h : Red p l) (a : Nat → Bool) : ∃ x, Sol l x ∧ ∀ k, isP p l k = false → x k = a k := by
  induction l with
  | nil => exact ⟨a, Sol.nil, fun _ _ => rfl⟩
  | cons e l ih =>
    obtain ⟨x, hs, hf⟩ := ih h.tail
    have hk := h.plt (e := e) (by simp)
    have hon := h.on e (by simp)
    refine ⟨upd x (p e.m) (x (p e.m) ^^ dot e.m x ^^ e.r), Sol.cons.2 ⟨?_, fun b hb => ?_⟩, fun k hp => ?_⟩
    · rw [dot_upd _ _ _ hk, hon]
      cases dot e.m x <;> cases x (p e.m) <;> cases e.r <;> rfl
    · have := ((List.pairwise_cons.1 h.sep).1 b hb).1
      rw [dot_off this]
      exact hs b hb
    · simp only [isP, List.any_cons, Bool.or_eq_false_iff] at hp
      have : k ≠ p e.m := by intro e2; rw [e2] at hp; simp at hp
      rw [upd_far this]; exact hf k hp.2
theorem Red.other {p : Nat → Nat} {l : List Rw} (h : Red p l) {a b : Rw} (ha : a ∈ l) (hb : b ∈ l) (hne : a ≠ b) : b.m.testBit (p a.m) = false := by
  induction l with
  | nil => cases ha
  | cons e l ih =>
    have hp := List.pairwise_cons.1 h.sep
    rcases List.mem_cons.1 ha with rfl | ha'
    · rcases List.mem_cons.1 hb with rfl | hb'
      · exact absurd rfl hne
      · exact (hp.1 b hb').1
    · rcases List.mem_cons.1 hb with rfl | hb'
      · exact (hp.1 a ha').2
      · exact ih h.tail ha' hb'
/-- a row with a leading bit bears no other leading bit -/
theorem Red.only {p : Nat → Nat} {l : List Rw} (h : Red p l) {e : Rw} (he : e ∈ l) {k : Nat} (hb : e.m.testBit k = true) (hk : k ≠ p e.m) : isP p l k = false := by
  rw [Bool.eq_false_iff]; intro hp
  obtain ⟨a, ha, rfl⟩ := isP_iff.1 hp
  have : a ≠ e := by intro e2; rw [e2] at hk; exact hk rfl
  rw [h.other ha he this] at hb; cases hb
/-- the free bits tell the solution -/
theorem Red.uniq {p : Nat → Nat} {l : List Rw} (h : Red p l) {x y : Nat → Bool} (hx : Sol l x) (hy : Sol l y) (hf : ∀ k, k < 64 → isP p l k = false → x k = y k) : ∀ k, k < 64 → x k = y k := by
  intro k hk
  cases hp : isP p l k with
  | false => exact hf k hk hp
  | true =>
    obtain ⟨e, he, rfl⟩ := isP_iff.1 hp
    have hon := h.on e he
    have e1 := hx e he
    have e2 := hy e he
    have e3 : dot e.m (upd x (p e.m) (y (p e.m))) = dot e.m y := dot_congr (fun j hj hb => by
      by_cases ej : j = p e.m
      · rw [ej, upd_same]
      · rw [upd_far ej]; exact hf j hj (h.only he hb ej))
    rw [dot_upd _ _ _ hk, hon, e1, e2] at e3
    revert e3
    cases x (p e.m) <;> cases y (p e.m) <;> cases e.r <;> simp

/-- how many of the values of the first n bits have a property -/
def cntB : Nat → ((Nat → Bool) → Bool) → Nat
  | 0, f => if f (fun _ => false) then 1 else 0
  | n + 1, f => cntB n (fun x => f (upd x n false)) + cntB n (fun x => f (upd x n true))
theorem cntB_split (n : Nat) (f g : (Nat → Bool) → Bool) : cntB n f = cntB n (fun x => f x && g x) + cntB n (fun x => f x && !g x) := by
  induction n generalizing f g with
  | zero => show (if f (fun _ => false) then 1 else 0) = (if (f (fun _ => false) && g (fun _ => false)) then 1 else 0) + (if (f (fun _ => false) && !g (fun _ => false)) then 1 else 0); generalize f (fun _ => false) = a; generalize g (fun _ => false) = b; revert a b; decide
  | succ n ih => simp only [cntB]; rw [ih _ (fun x => g (upd x n false)), ih (fun x => f (upd x n true)) (fun x => g (upd x n true))]; omega
theorem cntB_flip {n k : Nat} (f : (Nat → Bool) → Bool) (hk : k < n) : cntB n (fun x => f (upd x k (!x k))) = cntB n f := by
  induction n generalizing f with
  | zero => omega
  | succ n ih =>
    simp only [cntB]
    by_cases e : k = n
    · subst e
      have h1 : ∀ (b : Bool) (x : Nat → Bool), upd (upd x k b) k (!(upd x k b) k) = upd x k (!b) := fun b x => by
        funext j; simp only [upd]; split <;> simp
      simp only [h1, Bool.not_false, Bool.not_true]; omega
    · have h1 : ∀ (b : Bool) (x : Nat → Bool), upd (upd x n b) k (!(upd x n b) k) = upd (upd x k (!x k)) n b := fun b x => by
        funext j; simp only [upd]; rw [if_neg e]; by_cases j1 : j = k <;> by_cases j2 : j = n <;> simp [j1, j2] <;> omega
      simp only [h1]
      rw [ih (fun x => f (upd x n false)) (by omega), ih (fun x => f (upd x n true)) (by omega)]
theorem cntB_congr {n : Nat} {f g : (Nat → Bool) → Bool} (h : ∀ x, f x = g x) : cntB n f = cntB n g := by rw [show f = g from funext h]
theorem cntB_true (n : Nat) : cntB n (fun _ => true) = 2 ^ n := by
  induction n with
  | zero => rfl
  | succ n ih => simp only [cntB, ih]; omega
def solB (l : List Rw) (x : Nat → Bool) : Bool := l.all fun e => dot e.m x == e.r
theorem solB_iff {l : List Rw} {x : Nat → Bool} : solB l x = true ↔ Sol l x := by simp [solB, Sol]
theorem Red.cnt {p : Nat → Nat} {l : List Rw} {N : Nat} (hN : 64 ≤ N) (h : Red p l) : cntB N (solB l) * 2 ^ l.length = 2 ^ N := by
  induction l with
  | nil =>
    have e : solB [] = fun _ => true := rfl
    rw [e, cntB_true, List.length_nil, Nat.pow_zero, Nat.mul_one]
  | cons e l ih =>
    have hk := h.plt (e := e) (by simp)
    have hon := h.on e (by simp)
    have h1 := cntB_split N (solB l) (fun x => dot e.m x == e.r)
    have h2 := cntB_flip (n := N) (fun x => solB l x && !(dot e.m x == e.r)) (Nat.lt_of_lt_of_le hk hN)
    have h3 : ∀ x, (solB l (upd x (p e.m) (!x (p e.m))) && !(dot e.m (upd x (p e.m) (!x (p e.m))) == e.r)) = (solB l x && (dot e.m x == e.r)) := fun x => by
      have : solB l (upd x (p e.m) (!x (p e.m))) = solB l x := by
        simp only [solB]
        rw [Bool.eq_iff_iff]
        simp only [List.all_eq_true]
        refine forall_congr' fun b => forall_congr' fun hb => ?_
        have := ((List.pairwise_cons.1 h.sep).1 b hb).1
        rw [dot_off this]
      rw [this, dot_upd _ _ _ hk, hon]
      cases solB l x <;> cases dot e.m x <;> cases x (p e.m) <;> cases e.r <;> rfl
    rw [cntB_congr h3] at h2
    have h4 : cntB N (solB (e :: l)) = cntB N (fun x => solB l x && (dot e.m x == e.r)) := cntB_congr fun x => by simp only [solB, List.all_cons, Bool.and_comm]
    have := ih h.tail
    rw [h4, List.length_cons, Nat.pow_succ, ← Nat.mul_assoc]
    rw [h1, ← h2] at this
    rw [← this, Nat.add_mul]; omega
/-- two solved lists with the same solutions have the same number of rows -/
theorem red_lenN {p q : Nat → Nat} {a b : List Rw} {N : Nat} (hN : 64 ≤ N) (ha : Red p a) (hb : Red q b) (h : ∀ x, Sol a x ↔ Sol b x) : a.length = b.length := by
  have e : cntB N (solB a) = cntB N (solB b) := cntB_congr fun x => by rw [Bool.eq_iff_iff, solB_iff, solB_iff]; exact h x
  have h1 := ha.cnt hN
  have h2 := hb.cnt hN
  rw [e] at h1
  have h3 : 0 < cntB N (solB b) := Nat.pos_of_ne_zero (by intro h0; rw [h0, Nat.zero_mul] at h2; have := Nat.two_pow_pos N; omega)
  exact (Nat.pow_right_inj (by omega : 1 < 2)).1 (Nat.eq_of_mul_eq_mul_left h3 (h1.trans h2.symm))
theorem red_len {p q : Nat → Nat} {a b : List Rw} (ha : Red p a) (hb : Red q b) (h : ∀ x, Sol a x ↔ Sol b x) : a.length = b.length := red_lenN (Nat.le_refl 64) ha hb h
end Go.Proofs.YtddihmpiaemadaaGreatDoor
namespace Go.Proofs.YtddihmpiaemadaaGreatDoor
set_option linter.unusedVariables false
set_option linter.unusedSimpArgs false

def low (m : Nat) : Nat := if h : m = 0 then 0 else if m % 2 = 1 then 0 else low (m / 2) + 1
termination_by m
decreasing_by omega
theorem low_on (m : Nat) (h : m ≠ 0) : m.testBit (low m) = true := by
  induction m using Nat.strongRecOn with
  | _ m ih =>
    unfold low
    rw [dif_neg h]
    by_cases h1 : m % 2 = 1
    · rw [if_pos h1]; simp [h1]
    · rw [if_neg h1, Nat.testBit_succ]; exact ih (m / 2) (by omega) (by omega)
theorem low_min (m : Nat) : ∀ j, j < low m → m.testBit j = false := by
  induction m using Nat.strongRecOn with
  | _ m ih =>
    intro j hj
    unfold low at hj
    by_cases h : m = 0
    · rw [dif_pos h] at hj; omega
    rw [dif_neg h] at hj
    by_cases h1 : m % 2 = 1
    · rw [if_pos h1] at hj; omega
    · rw [if_neg h1] at hj
      cases j with
      | zero => simp; omega
      | succ j => rw [Nat.testBit_succ]; exact ih (m / 2) (by omega) j (by omega)
theorem low_eq {m k : Nat} (h1 : m.testBit k = true) (h2 : ∀ j, j < k → m.testBit j = false) : low m = k := by
  have h0 : m ≠ 0 := by intro e; rw [e] at h1; simp at h1
  rcases Nat.lt_trichotomy (low m) k with h | h | h
  · have := low_on m h0; rw [h2 _ h] at this; cases this
  · exact h
  · rw [low_min m k h] at h1; cases h1
def top (m : Nat) : Nat := m.log2
theorem top_on (m : Nat) (h : m ≠ 0) : m.testBit (top m) = true := Nat.testBit_log2 h
theorem top_ge {m k : Nat} (h1 : m.testBit k = true) : k ≤ top m := by
  have h0 : m ≠ 0 := by intro e; rw [e] at h1; simp at h1
  exact (Nat.le_log2 h0).2 (Nat.ge_two_pow_of_testBit h1)
theorem top_eq {m k : Nat} (h1 : m.testBit k = true) (h2 : ∀ j, k < j → m.testBit j = false) : top m = k := by
  have h0 : m ≠ 0 := by intro e; rw [e] at h1; simp at h1
  rcases Nat.lt_trichotomy (top m) k with h | h | h
  · have := top_ge h1; omega
  · exact h
  · have := top_on m h0; rw [h2 _ h] at this; cases this
theorem piv_top : Piv top where
  on m h := top_on m h
  keep a b h1 h2 h3 h4 := by
    have hle := top_ge h4
    have hne : top a ≠ top b := by intro e; rw [e, top_on b h3] at h2; cases h2
    refine top_eq (by rw [Nat.testBit_xor, h1, h2]; rfl) fun j hj => ?_
    have e1 : a.testBit j = false := by rw [Bool.eq_false_iff]; intro e; have := top_ge e; omega
    have e2 : b.testBit j = false := by rw [Bool.eq_false_iff]; intro e; have := top_ge e; omega
    rw [Nat.testBit_xor, e1, e2]; rfl

/-- the first way: row by row -/
def clr (p : Nat → Nat) (r k : Rw) : Rw := if r.m.testBit (p k.m) then r.add k else r
def redI (p : Nat → Nat) : List Rw → List Rw → Option (List Rw)
  | out, [] => some out
  | out, r :: rs =>
    if (out.foldl (clr p) r).m = 0 then (if (out.foldl (clr p) r).r then none else redI p out rs)
    else redI p (out.map (fun k => clr (fun _ => p (out.foldl (clr p) r).m) k (out.foldl (clr p) r)) ++ [out.foldl (clr p) r]) rs
theorem clr_sat {p : Nat → Nat} {r k : Rw} {x : Nat → Bool} (hk : dot k.m x = k.r) : (dot (clr p r k).m x = (clr p r k).r) ↔ dot r.m x = r.r := by
  unfold clr; split
  · exact dot_add hk
  · exact Iff.rfl
theorem clr_lt {p : Nat → Nat} {r k : Rw} {u : Nat} (hr : r.m < 2 ^ u) (hk : k.m < 2 ^ u) : (clr p r k).m < 2 ^ u := by
  unfold clr; split
  · exact Nat.xor_lt_two_pow hr hk
  · exact hr
/-- the row behind all known rows -/
theorem fold_clr {p : Nat → Nat} (out : List Rw) (r : Rw) (h : Red p out) {u : Nat} (hu : ∀ e ∈ out, e.m < 2 ^ u) (hr : r.m < 2 ^ u) :
    (out.foldl (clr p) r).m < 2 ^ u ∧ (∀ x, Sol out x → ((dot (out.foldl (clr p) r).m x = (out.foldl (clr p) r).r) ↔ dot r.m x = r.r)) ∧ (∀ e ∈ out, (out.foldl (clr p) r).m.testBit (p e.m) = false) ∧ (∀ k, (∀ e ∈ out, e.m.testBit k = false) → (out.foldl (clr p) r).m.testBit k = r.m.testBit k) := by
  induction out generalizing r with
  | nil => exact ⟨hr, fun _ _ => Iff.rfl, (by intro e h; cases h), fun _ _ => rfl⟩
  | cons e out ih =>
    obtain ⟨h1, h2, h3, h4⟩ := ih (clr p r e) h.tail (fun a ha => hu a (by simp [ha])) (clr_lt hr (hu e (by simp)))
    simp only [List.foldl_cons]
    refine ⟨h1, fun x hx => ?_, fun a ha => ?_, fun k hk => ?_⟩
    · obtain ⟨hx1, hx2⟩ := Sol.cons.1 hx
      exact (h2 x hx2).trans (clr_sat hx1)
    · rcases List.mem_cons.1 ha with rfl | ha'
      · rw [h4 (p a.m) (fun b hb => ((List.pairwise_cons.1 h.sep).1 b hb).1)]
        unfold clr; split
        · rename_i hc; simp only [Rw.add, Nat.testBit_xor, hc, h.on a (by simp)]; rfl
        · rename_i hc; simpa using hc
      · exact h3 a ha'
    · rw [h4 k (fun b hb => hk b (by simp [hb]))]
      unfold clr; split
      · simp only [Rw.add, Nat.testBit_xor, hk e (by simp), Bool.xor_false]
      · rfl
/-- a further row that bears no leading bit -/
theorem Red.more {p : Nat → Nat} (hp : Piv p) {out : List Rw} (h : Red p out) {r : Rw} (h0 : r.m ≠ 0) (hr : r.m < 2 ^ 64) (hn : ∀ e ∈ out, r.m.testBit (p e.m) = false) :
    Red p (out.map (fun k => clr (fun _ => p r.m) k r) ++ [r]) := by
  have hon := hp.on r.m h0
  have hpe : ∀ e ∈ out, p (clr (fun _ => p r.m) e r).m = p e.m := fun e he => by
    unfold clr; split
    · rename_i hc; exact hp.keep _ _ (h.on e he) (hn e he) h0 hc
    · rfl
  have hbit : ∀ e ∈ out, ∀ k, r.m.testBit k = false → (clr (fun _ => p r.m) e r).m.testBit k = e.m.testBit k := fun e he k hk => by
    unfold clr; split
    · simp only [Rw.add, Nat.testBit_xor, hk, Bool.xor_false]
    · rfl
  refine ⟨fun e he => ?_, fun e he => ?_, ?_⟩
  · rcases List.mem_append.1 he with he | he
    · obtain ⟨a, ha, rfl⟩ := List.mem_map.1 he
      rw [hpe a ha, hbit a ha _ (hn a ha)]; exact h.on a ha
    · obtain rfl : e = r := by simpa using he
      exact hon
  · rcases List.mem_append.1 he with he | he
    · obtain ⟨a, ha, rfl⟩ := List.mem_map.1 he
      exact clr_lt (h.lt a ha) hr
    · obtain rfl : e = r := by simpa using he
      exact hr
  · refine List.pairwise_append.2 ⟨?_, by simp, fun a ha b hb => ?_⟩
    · refine List.pairwise_map.2 (h.sep.imp_of_mem fun {a b} ha hb hab => ?_)
      rw [hpe a ha, hpe b hb, hbit b hb _ (hn a ha), hbit a ha _ (hn b hb)]
      exact hab
    · obtain ⟨e, he, rfl⟩ := List.mem_map.1 ha
      obtain rfl : b = r := by simpa using hb
      refine ⟨by rw [hpe e he]; exact hn e he, ?_⟩
      unfold clr; split
      · rename_i hc; simp only [Rw.add, Nat.testBit_xor, hc, hon]; rfl
      · rename_i hc; simpa using hc
theorem Sol.map_clr {out : List Rw} {r : Rw} {q : Nat → Nat} {x : Nat → Bool} (hr : dot r.m x = r.r) : Sol (out.map (fun k => clr q k r)) x ↔ Sol out x := by
  simp only [Sol, List.mem_map]
  constructor
  · intro h e he; exact (clr_sat hr).1 (h _ ⟨e, he, rfl⟩)
  · rintro h _ ⟨e, he, rfl⟩; exact (clr_sat hr).2 (h e he)
theorem redI_ok {p : Nat → Nat} (hp : Piv p) {u : Nat} (h64 : u ≤ 64) (rs : List Rw) : ∀ (out : List Rw), Red p out → (∀ e ∈ out, e.m < 2 ^ u) → (∀ e ∈ rs, e.m < 2 ^ u) →
    match redI p out rs with
    | none => ∀ x, ¬ Sol (out ++ rs) x
    | some l => Red p l ∧ (∀ e ∈ l, e.m < 2 ^ u) ∧ (∀ x, Sol l x ↔ Sol (out ++ rs) x) ∧ l.length ≤ out.length + rs.length := by
  have hpow : 2 ^ u ≤ 2 ^ 64 := Nat.pow_le_pow_right (by omega) h64
  induction rs with
  | nil => intro out h hu _; exact ⟨h, hu, fun x => by simp, by simp⟩
  | cons r rs ih =>
    intro out h hu hrs
    obtain ⟨h1, h2, h3, _⟩ := fold_clr out r h hu (hrs r (by simp))
    have hs : ∀ x, Sol (out ++ r :: rs) x ↔ (Sol out x ∧ (dot (out.foldl (clr p) r).m x = (out.foldl (clr p) r).r) ∧ Sol rs x) := fun x => by
      rw [Sol.app, Sol.cons]
      exact ⟨fun ⟨a, b, c⟩ => ⟨a, (h2 x a).2 b, c⟩, fun ⟨a, b, c⟩ => ⟨a, (h2 x a).1 b, c⟩⟩
    unfold redI
    generalize out.foldl (clr p) r = r' at *
    by_cases h0 : r'.m = 0
    · rw [if_pos h0]
      cases hr : r'.r
      · rw [if_neg (by simp)]
        have := ih out h hu (fun e he => hrs e (by simp [he]))
        revert this
        cases redI p out rs with
        | none => intro this x hx; obtain ⟨a, _, c⟩ := (hs x).1 hx; exact this x (Sol.app.2 ⟨a, c⟩)
        | some l => rintro ⟨a, b, c, d⟩; refine ⟨a, b, fun x => (c x).trans ?_, by simp; omega⟩; rw [hs x, Sol.app, h0, dot_zero, hr]; simp
      · rw [if_pos rfl]
        intro x hx; have := ((hs x).1 hx).2.1; rw [h0, dot_zero, hr] at this; cases this
    · rw [if_neg h0]
      have hm := h.more hp h0 (Nat.lt_of_lt_of_le h1 hpow) h3
      have := ih _ hm (fun e he => by
        rcases List.mem_append.1 he with he | he
        · obtain ⟨a, ha, rfl⟩ := List.mem_map.1 he
          exact clr_lt (hu a ha) h1
        · obtain rfl : e = r' := by simpa using he
          exact h1) (fun e he => hrs e (by simp [he]))
      have hs2 : ∀ x, Sol ((out.map (fun k => clr (fun _ => p r'.m) k r') ++ [r']) ++ rs) x ↔ Sol (out ++ r :: rs) x := fun x => by
        rw [hs x, Sol.app, Sol.app, Sol.cons]
        exact ⟨fun ⟨⟨a, b, _⟩, c⟩ => ⟨(Sol.map_clr b).1 a, b, c⟩, fun ⟨a, b, c⟩ => ⟨⟨(Sol.map_clr b).2 a, b, Sol.nil⟩, c⟩⟩
      revert this
      cases redI p (out.map (fun k => clr (fun _ => p r'.m) k r') ++ [r']) rs with
      | none => intro this x hx; exact this x ((hs2 x).2 hx)
      | some l => rintro ⟨a, b, c, d⟩; refine ⟨a, b, fun x => (c x).trans (hs2 x), ?_⟩; simp at d ⊢; omega

/-- the second way: bit by bit -/
def addK (k : Nat) (row e : Rw) : Rw := if e.m.testBit k then e.add row else e
def stepS (k : Nat) (s : List Rw × List Rw) : List Rw × List Rw :=
  match s.1.findIdx? (fun e => e.m.testBit k) with
  | none => s
  | some i => ((s.1.take i ++ s.1.drop (i + 1)).map (addK k (s.1.getD i default)), s.2.map (addK k (s.1.getD i default)) ++ [s.1.getD i default])
def runS : Nat → List Rw × List Rw → List Rw × List Rw
  | 0, s => s
  | k + 1, s => stepS k (runS k s)
def redS (l : List Rw) : Option (List Rw) := if (runS 64 (l, [])).1.any (·.r) then none else some (runS 64 (l, [])).2
structure InvS (k u : Nat) (l : List Rw) (s : List Rw × List Rw) : Prop where
  from_k : ∀ e ∈ s.1, ∀ j, j < k → e.m.testBit j = false
  lt1 : ∀ e ∈ s.1, e.m < 2 ^ u
  lt2 : ∀ e ∈ s.2, e.m < 2 ^ u
  ne : ∀ e ∈ s.2, e.m ≠ 0
  to_k : ∀ e ∈ s.2, low e.m < k
  sep : s.2.Pairwise fun a b => low a.m < low b.m ∧ b.m.testBit (low a.m) = false ∧ a.m.testBit (low b.m) = false
  sol : ∀ x, (Sol s.1 x ∧ Sol s.2 x) ↔ Sol l x
  len : s.1.length + s.2.length = l.length
theorem Sol.map_addK {out : List Rw} {row : Rw} {k : Nat} {x : Nat → Bool} (hr : dot row.m x = row.r) : Sol (out.map (addK k row)) x ↔ Sol out x := Sol.map_clr (q := fun _ => k) hr
theorem addK_lt {k u : Nat} {row e : Rw} (hr : row.m < 2 ^ u) (he : e.m < 2 ^ u) : (addK k row e).m < 2 ^ u := clr_lt (p := fun _ => k) he hr
theorem addK_bit {k j : Nat} {row e : Rw} (hj : row.m.testBit j = false) : (addK k row e).m.testBit j = e.m.testBit j := by
  unfold addK; split
  · simp only [Rw.add, Nat.testBit_xor, hj, Bool.xor_false]
  · rfl
theorem addK_k {k : Nat} {row e : Rw} (hk : row.m.testBit k = true) : (addK k row e).m.testBit k = false := by
  unfold addK; split
  · rename_i hc; simp only [Rw.add, Nat.testBit_xor, hc, hk]; rfl
  · rename_i hc; simpa using hc
theorem pw_map {α : Type} {R S : α → α → Prop} {l : List α} {f : α → α} (h : l.Pairwise R) (hf : ∀ a ∈ l, ∀ b ∈ l, R a b → S (f a) (f b)) : (l.map f).Pairwise S :=
  List.pairwise_map.2 (h.imp_of_mem fun ha hb hr => hf _ ha _ hb hr)
theorem stepS_inv {k u : Nat} {l : List Rw} {s : List Rw × List Rw} (h : InvS k u l s) : InvS (k + 1) u l (stepS k s) := by
  obtain ⟨a, b⟩ := s
  unfold stepS
  cases hf : a.findIdx? (fun e => e.m.testBit k) with
  | none =>
    have hn := List.findIdx?_eq_none_iff.1 hf
    exact ⟨fun e he j hj => by
      by_cases e2 : j = k
      · rw [e2]; simpa using hn e he
      · exact h.from_k e he j (by omega), h.lt1, h.lt2, h.ne, fun e he => Nat.lt_succ_of_lt (h.to_k e he), h.sep, h.sol, h.len⟩
  | some i =>
    obtain ⟨hi, hb, _⟩ := List.findIdx?_eq_some_iff_getElem.1 hf
    have hg : a.getD i default = a[i] := by rw [List.getD_eq_getElem?_getD, List.getElem?_eq_getElem hi]; rfl
    simp only [hg]
    have hm : a[i] ∈ a := List.getElem_mem hi
    have hsplit : a = a.take i ++ a[i] :: a.drop (i + 1) := by rw [← List.drop_eq_getElem_cons hi, List.take_append_drop]
    have hmem : ∀ e ∈ a.take i ++ a.drop (i + 1), e ∈ a := fun e he => by
      rcases List.mem_append.1 he with he | he
      · exact List.mem_of_mem_take he
      · exact List.mem_of_mem_drop he
    have hlow : ∀ j, j < k → a[i].m.testBit j = false := h.from_k _ hm
    have hbl : ∀ e ∈ b, a[i].m.testBit (low e.m) = false := fun e he => hlow _ (h.to_k e he)
    have hle : ∀ e ∈ b, low (addK k a[i] e).m = low e.m := fun e he => low_eq (by rw [addK_bit (hbl e he)]; exact low_on _ (h.ne e he)) fun j hj => by
      rw [addK_bit (hlow j (Nat.lt_trans hj (h.to_k e he)))]; exact low_min _ j hj
    have hrow : low a[i].m = k := low_eq hb hlow
    have hne : a[i].m ≠ 0 := by intro e; rw [e] at hb; simp at hb
    refine ⟨fun e he j hj => ?_, fun e he => ?_, fun e he => ?_, fun e he => ?_, fun e he => ?_, ?_, fun x => ?_, ?_⟩
    · obtain ⟨c, hc, rfl⟩ := List.mem_map.1 he
      by_cases e2 : j = k
      · rw [e2]; exact addK_k hb
      · rw [addK_bit (hlow j (by omega))]; exact h.from_k c (hmem c hc) j (by omega)
    · obtain ⟨c, hc, rfl⟩ := List.mem_map.1 he
      exact addK_lt (h.lt1 _ hm) (h.lt1 c (hmem c hc))
    · rcases List.mem_append.1 he with he | he
      · obtain ⟨c, hc, rfl⟩ := List.mem_map.1 he
        exact addK_lt (h.lt1 _ hm) (h.lt2 c hc)
      · obtain rfl : e = a[i] := by simpa using he
        exact h.lt1 _ hm
    · rcases List.mem_append.1 he with he | he
      · obtain ⟨c, hc, rfl⟩ := List.mem_map.1 he
        intro e0
        have := low_on _ (h.ne c hc)
        rw [← addK_bit (k := k) (e := c) (hbl c hc), e0] at this; simp at this
      · obtain rfl : e = a[i] := by simpa using he
        exact hne
    · rcases List.mem_append.1 he with he | he
      · obtain ⟨c, hc, rfl⟩ := List.mem_map.1 he
        rw [hle c hc]; exact Nat.lt_succ_of_lt (h.to_k c hc)
      · obtain rfl : e = a[i] := by simpa using he
        rw [hrow]; exact Nat.lt_succ_self k
    · refine List.pairwise_append.2 ⟨pw_map h.sep fun c hc d hd ⟨h1, h2, h3⟩ => ?_, by simp, fun c hc d hd => ?_⟩
      · rw [hle c hc, hle d hd, addK_bit (hbl c hc), addK_bit (hbl d hd)]; exact ⟨h1, h2, h3⟩
      · obtain ⟨e, he, rfl⟩ := List.mem_map.1 hc
        obtain rfl : d = a[i] := by simpa using hd
        rw [hle e he, hrow]
        exact ⟨h.to_k e he, hbl e he, addK_k hb⟩
    · rw [← h.sol x]
      simp only
      rw [Sol.app, Sol.cons]
      constructor
      · rintro ⟨h1, h2, h3, _⟩
        have h1' := (Sol.map_addK h3).1 h1
        refine ⟨?_, (Sol.map_addK h3).1 h2⟩
        rw [hsplit, Sol.app, Sol.cons]
        exact ⟨(Sol.app.1 h1').1, h3, (Sol.app.1 h1').2⟩
      · rintro ⟨h1, h2⟩
        have h3 := h1 _ hm
        rw [hsplit, Sol.app, Sol.cons] at h1
        exact ⟨(Sol.map_addK h3).2 (Sol.app.2 ⟨h1.1, h1.2.2⟩), (Sol.map_addK h3).2 h2, h3, Sol.nil⟩
    · have := h.len
      simp only [List.length_map, List.length_append, List.length_take, List.length_drop, List.length_cons, List.length_nil] at this ⊢
      omega
theorem runS_inv {u : Nat} {l : List Rw} (hl : ∀ e ∈ l, e.m < 2 ^ u) (k : Nat) : InvS k u l (runS k (l, [])) := by
  induction k with
  | zero => exact ⟨fun _ _ _ h => absurd h (Nat.not_lt_zero _), hl, (by intro e h; cases h), (by intro e h; cases h), (by intro e h; cases h), List.Pairwise.nil, fun x => ⟨fun h => h.1, fun h => ⟨h, Sol.nil⟩⟩, rfl⟩
  | succ k ih => exact stepS_inv ih
def Srt (l : List Rw) : Prop := l.Pairwise fun a b => low a.m < low b.m
theorem zero_of {m : Nat} (h : m < 2 ^ 64) (hb : ∀ j, j < 64 → m.testBit j = false) : m = 0 := by
  refine Nat.eq_of_testBit_eq fun i => ?_
  rw [Nat.zero_testBit]
  by_cases hi : i < 64
  · exact hb i hi
  · exact Nat.testBit_lt_two_pow (Nat.lt_of_lt_of_le h (Nat.pow_le_pow_right (by omega) (by omega)))
def OkS (u : Nat) (l : List Rw) : Option (List Rw) → Prop
  | none => ∀ x, ¬ Sol l x
  | some o => Red low o ∧ Srt o ∧ (∀ e ∈ o, e.m < 2 ^ u) ∧ (∀ x, Sol o x ↔ Sol l x) ∧ o.length ≤ l.length
theorem redS_ok {u : Nat} (h64 : u ≤ 64) {l : List Rw} (hl : ∀ e ∈ l, e.m < 2 ^ u) {o : Option (List Rw)} (ho : redS l = o) :
    OkS u l o := by
  subst ho
  have hpow : 2 ^ u ≤ 2 ^ 64 := Nat.pow_le_pow_right (by omega) h64
  have h := runS_inv hl 64
  unfold redS
  generalize runS 64 (l, []) = s at *
  have hz : ∀ e ∈ s.1, e.m = 0 := fun e he => zero_of (Nat.lt_of_lt_of_le (h.lt1 e he) hpow) (h.from_k e he)
  cases ha : s.1.any (·.r)
  · rw [if_neg (by simp)]
    refine ⟨⟨fun e he => low_on _ (h.ne e he), fun e he => Nat.lt_of_lt_of_le (h.lt2 e he) hpow, h.sep.imp fun hh => hh.2⟩, h.sep.imp fun hh => hh.1, h.lt2, fun x => ?_, by have := h.len; omega⟩
    rw [← h.sol x]
    refine ⟨fun hx => ⟨fun e he => ?_, hx⟩, fun hx => hx.2⟩
    rw [hz e he, dot_zero]
    have := List.any_eq_false.1 ha e he
    simpa using this
  · rw [if_pos rfl]
    show ∀ x, ¬ Sol l x
    intro x hx
    obtain ⟨e, he, hr⟩ := List.any_eq_true.1 ha
    have := ((h.sol x).2 hx).1 e he
    rw [hz e he, dot_zero, hr] at this; cases this

/-- both ways: solvable or not, and the number of rows -/
theorem red_both {p : Nat → Nat} (hp : Piv p) {u : Nat} (h64 : u ≤ 64) {l : List Rw} (hl : ∀ e ∈ l, e.m < 2 ^ u) :
    (redI p [] l = none ∧ redS l = none ∧ ∀ x, ¬ Sol l x) ∨ ∃ a b, redI p [] l = some a ∧ redS l = some b ∧ Red p a ∧ Red low b ∧ Srt b ∧ (∀ e ∈ a, e.m < 2 ^ u) ∧ (∀ e ∈ b, e.m < 2 ^ u) ∧ (∀ x, Sol a x ↔ Sol l x) ∧ (∀ x, Sol b x ↔ Sol l x) ∧ a.length = b.length ∧ a.length ≤ l.length := by
  have h1 := redI_ok hp h64 l [] Red.nil (by intro e h; cases h) hl
  generalize hB : redS l = B
  have h2 := redS_ok h64 hl hB
  clear hB
  revert h1 h2
  generalize redI p [] l = A
  cases A with
  | none =>
    cases B with
    | none => intro h1 h2; exact .inl ⟨rfl, rfl, h2⟩
    | some b => rintro h1 ⟨hb, _, _, hs, _⟩; obtain ⟨x, hx, _⟩ := hb.sol (fun _ => false); exact absurd ((hs x).1 hx) (h1 x)
  | some a =>
    cases B with
    | none => rintro ⟨ha, _, hs, _⟩ h2; obtain ⟨x, hx, _⟩ := ha.sol (fun _ => false); exact absurd ((hs x).1 hx) (h2 x)
    | some b =>
      rintro ⟨ha, ha2, ha3, ha4⟩ ⟨hb, hb2, hb3, hb4, hb5⟩
      exact .inr ⟨a, b, rfl, rfl, ha, hb, hb2, ha2, hb3, ha3, hb4, red_len ha hb fun x => (ha3 x).trans (hb4 x).symm, by simpa using ha4⟩

theorem dotN_false (n m : Nat) : dotN n m (fun _ => false) = false := by
  induction n with
  | zero => rfl
  | succ n ih => simp only [dotN, ih, Bool.and_false, Bool.xor_false]
theorem dot_false (m : Nat) : dot m (fun _ => false) = false := dotN_false _ _
end Go.Proofs.YtddihmpiaemadaaGreatDoor
