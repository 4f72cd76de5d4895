/- Equations held by values, and reduced equations: plain laws. -/
import Derived.Test.YthchdbjgjnpooaaDoorRdeP
namespace Go.Proofs.YthchdbjgjnpooaaDoor
set_option linter.unusedVariables false
set_option linter.unusedSimpArgs false
open Go.RowKit
theorem dot_pow {i : Nat} (hi : i < 64) (x : Nat → Bool) : dot (2 ^ i) x = x i := by
  have h1 : dot (2 ^ i) (upd (fun _ => false) i (x i)) = dot (2 ^ i) x := dot_congr fun k hk hb => by
    rw [Nat.testBit_two_pow, decide_eq_true_eq] at hb
    subst hb; rw [upd_same]
  rw [← h1, dot_upd _ _ _ hi, dot_false, Nat.testBit_two_pow_self]
  cases x i <;> rfl
/-- the values as truth values -/
def valX (vs : List Nat) (k : Nat) : Bool := decide (vs.getD k 0 % 2 = 1)
/-- the sum of the values of bits -/
def sumV (vs : List Nat) : List Int → Nat
  | [] => 0
  | k :: r => vs.getD k.toNat 0 + sumV vs r
def holdE (vs : List Nat) (e : Eqn) : Bool := decide ((e.right.toNat + sumV vs e.bits) % 2 = 0)
def holdL (vs : List Nat) (l : List Eqn) : Bool := l.all (holdE vs)
theorem maskB_cons (k : Int) (l : List Int) : maskB (k :: l) = 2 ^ k.toNat ||| maskB l := by
  unfold maskB
  rw [List.foldl_cons, Nat.zero_or]
  have H : ∀ (l : List Int) (a b : Nat), l.foldl (fun a k => a ||| 2 ^ k.toNat) (a ||| b) = a ||| l.foldl (fun a k => a ||| 2 ^ k.toNat) b := by
    intro l
    induction l with
    | nil => intro a b; rfl
    | cons x l ih => intro a b; rw [List.foldl_cons, List.foldl_cons, Nat.or_assoc, ih]
  have := H l (2 ^ k.toNat) 0
  rw [Nat.or_zero] at this; exact this
theorem maskB_bit (l : List Int) (j : Nat) : (maskB l).testBit j = l.any (fun k => k.toNat == j) := by
  induction l with
  | nil => simp [maskB]
  | cons k l ih =>
    rw [maskB_cons, Nat.testBit_or, ih, List.any_cons, Nat.testBit_two_pow]
    congr 1
theorem or_xor {a b : Nat} (h : ∀ j, a.testBit j = true → b.testBit j = false) : a ||| b = a ^^^ b := by
  refine Nat.eq_of_testBit_eq fun j => ?_
  rw [Nat.testBit_or, Nat.testBit_xor]
  have := h j
  cases ha : a.testBit j
  · simp
  · rw [this ha]; rfl
theorem dot_mask {l : List Int} (hb : ∀ k ∈ l, 0 ≤ k ∧ k ≤ 63) (hp : l.Pairwise (· < ·)) (vs : List Nat) : dot (maskB l) (valX vs) = decide (sumV vs l % 2 = 1) := by
  induction l with
  | nil => rw [show maskB [] = 0 from rfl, dot_zero]; rfl
  | cons k l ih =>
    obtain ⟨hp1, hp2⟩ := List.pairwise_cons.1 hp
    have hk := hb k (by simp)
    rw [maskB_cons, or_xor, dot_xor, dot_pow (by omega), ih (fun x hx => hb x (by simp [hx])) hp2]
    · unfold valX
      rw [sumV]
      generalize vs.getD k.toNat 0 = p
      generalize sumV vs l = q
      rcases Nat.mod_two_eq_zero_or_one p with h1 | h1 <;> rcases Nat.mod_two_eq_zero_or_one q with h2 | h2 <;> simp [h1, h2, Nat.add_mod]
    · intro j hj
      rw [Nat.testBit_two_pow, decide_eq_true_eq] at hj
      rw [maskB_bit, List.any_eq_false]
      intro x hx
      have h1 := hp1 x hx
      have h2 := hb x (by simp [hx])
      simp; omega
/-- an equation that is as described -/
structure EqOk (N : Nat) (e : Eqn) : Prop where
  b : ∀ x ∈ e.bits, 0 ≤ x ∧ x < N
  p : e.bits.Pairwise (· < ·)
  r : e.right = 0 ∨ e.right = 1
theorem holdE_dot {N : Nat} {e : Eqn} (h : EqOk N e) (hN : N ≤ 64) (vs : List Nat) : holdE vs e = true ↔ dot (eqnRw e).m (valX vs) = (eqnRw e).r := by
  have h1 := dot_mask (l := e.bits) (fun k hk => by have := h.b k hk; omega) h.p vs
  show _ ↔ dot (maskB e.bits) (valX vs) = decide (e.right = 1)
  rw [h1]
  unfold holdE
  rw [decide_eq_true_eq, decide_eq_decide]
  rcases h.r with h2 | h2 <;> rw [h2]
  · simp
  · simp; omega
theorem holdL_sol {N : Nat} {l : List Eqn} (h : ∀ e ∈ l, EqOk N e) (hN : N ≤ 64) (vs : List Nat) : holdL vs l = true ↔ Sol (l.map eqnRw) (valX vs) := by
  unfold holdL Sol
  rw [List.all_eq_true]
  constructor
  · rintro h1 e he
    obtain ⟨a, ha, rfl⟩ := List.mem_map.1 he
    exact (holdE_dot (h a ha) hN vs).1 (h1 a ha)
  · intro h1 e he
    exact (holdE_dot (h e he) hN vs).2 (h1 _ (List.mem_map.2 ⟨e, he, rfl⟩))
theorem valid_ok {l : List Eqn} {u : Int} (h : validE l u = true) : ∃ N : Nat, u = N ∧ N ≤ 64 ∧ l.length ≤ 64 ∧ ∀ e ∈ l, EqOk N e := by
  unfold validE at h
  simp only [Bool.and_eq_true, decide_eq_true_eq] at h
  obtain ⟨⟨h1, h2⟩, h3⟩ := h
  have hu := inB_yes h1
  refine ⟨u.toNat, by omega, by omega, h2, fun e he => ?_⟩
  have h4 := List.all_eq_true.1 h3 e he
  unfold eqnOk at h4
  simp only [Bool.and_eq_true] at h4
  obtain ⟨h5, h6, _⟩ := rises_low (p := none) h4.1
  have h7 := inB_yes h4.2
  exact ⟨fun x hx => by have := h5 x hx; omega, h6, by omega⟩
theorem rises_of {lo hi : Int} : ∀ {l : List Int} {p : Option Int}, (∀ x ∈ l, lo ≤ x ∧ x ≤ hi) → l.Pairwise (· < ·) → (∀ y, p = some y → ∀ x ∈ l, y < x) → risesF lo hi p l = true := by
  intro l
  induction l with
  | nil => intro p _ _ _; rfl
  | cons a l ih =>
    intro p h1 h2 h3
    obtain ⟨q1, q2⟩ := List.pairwise_cons.1 h2
    rw [risesF_cons, inB_t (h1 a (by simp)), Bool.true_and, ih (fun x hx => h1 x (by simp [hx])) q2 (fun y hy x hx => by cases hy; exact q1 x hx), Bool.and_true]
    unfold gapB
    cases p with
    | none => rfl
    | some y => have := h3 y rfl a (by simp); simp; omega
theorem ok_valid {N : Nat} {l : List Eqn} (hN : N ≤ 64) (hl : l.length ≤ 64) (h : ∀ e ∈ l, EqOk N e) : validE l N = true := by
  unfold validE
  rw [inB_t (by omega), decide_eq_true hl, Bool.true_and, Bool.true_and, List.all_eq_true]
  intro e he
  have h1 := h e he
  unfold eqnOk
  rw [Bool.and_eq_true]
  exact ⟨rises_of (fun x hx => by have := h1.b x hx; omega) h1.p (fun y hy => by cases hy), inB_t (by rcases h1.r with h | h <;> omega)⟩
theorem bitsK_mem {m k j : Nat} : j ∈ bitsK m k ↔ j < k ∧ m.testBit j = true := by simp [bitsK]
theorem bitsK_srt (m k : Nat) : (bitsK m k).Pairwise (· < ·) := List.Pairwise.filter _ List.pairwise_lt_range
theorem rowEqn_ok {N : Nat} {e : Rw} (h : e.m < 2 ^ N) : EqOk N (rowEqn e) := by
  refine ⟨fun x hx => ?_, ?_, ?_⟩
  · obtain ⟨j, hj, rfl⟩ := List.mem_map.1 (show x ∈ (bitsK e.m 64).map _ from hx)
    have h1 := (bitsK_mem.1 hj).2
    have : j < N := by
      apply Classical.byContradiction; intro hn
      rw [Nat.testBit_lt_two_pow (Nat.lt_of_lt_of_le h (Nat.pow_le_pow_right (by omega) (by omega)))] at h1; cases h1
    omega
  · show ((bitsK e.m 64).map fun i : Nat => (i : Int)).Pairwise _
    exact List.pairwise_map.2 ((bitsK_srt e.m 64).imp fun h => by omega)
  · show bi e.r = 0 ∨ bi e.r = 1
    cases e.r <;> simp [bi]
theorem eqnRw_row {e : Rw} (h : e.m < 2 ^ 64) : eqnRw (rowEqn e) = e := by
  refine Rw.ext' ?_ ?_
  · show maskB (intsN (bitsK e.m 64)) = e.m
    refine Nat.eq_of_testBit_eq fun j => ?_
    rw [maskB_bit]
    cases hb : e.m.testBit j
    · rw [List.any_eq_false]
      intro x hx
      obtain ⟨i, hi, rfl⟩ := List.mem_map.1 (show x ∈ (bitsK e.m 64).map _ from hx)
      have := (bitsK_mem.1 hi).2
      intro e2
      have e3 : i = j := by simpa using e2
      rw [e3, hb] at this; cases this
    · rw [List.any_eq_true]
      exact ⟨(j : Int), List.mem_map.2 ⟨j, bitsK_mem.2 ⟨bit_lt h hb, hb⟩, rfl⟩, by simp⟩
  · show decide (bi e.r = 1) = e.r
    cases e.r <;> rfl
theorem rows_back {o : List Rw} (h : ∀ e ∈ o, e.m < 2 ^ 64) : (o.map rowEqn).map eqnRw = o := by
  rw [List.map_map]
  conv => rhs; rw [← List.map_id o]
  exact List.map_congr_left fun e he => eqnRw_row (h e he)
/-- the first bit of a row that is not empty -/
theorem bitsK_head {m : Nat} (h0 : m ≠ 0) (h : m < 2 ^ 64) : (bitsK m 64)[0]? = some (low m) := by
  have hl : low m ∈ bitsK m 64 := bitsK_mem.2 ⟨low_lt h0 h, low_on m h0⟩
  cases hb : bitsK m 64 with
  | nil => rw [hb] at hl; cases hl
  | cons a r =>
    have hs := bitsK_srt m 64
    rw [hb] at hl hs
    have ha : a ∈ bitsK m 64 := by rw [hb]; simp
    have h1 := low_le (bitsK_mem.1 ha).2
    rcases List.mem_cons.1 hl with h2 | h2
    · rw [h2]; rfl
    · have := (List.pairwise_cons.1 hs).1 _ h2; omega
/-- what the law asks of reduced equations -/
structure RdLaw (N : Nat) (l : List Eqn) (o : List Rw) : Prop where
  len : o.length ≤ 64
  ok : ∀ e ∈ o.map rowEqn, EqOk N e
  valid : validE (o.map rowEqn) N = true
  again : rdE (o.map rowEqn) N = (o.map rowEqn, 0)
  same : ∀ vs : List Nat, holdL vs (o.map rowEqn) = holdL vs l
  ne : ∀ (i : Nat) (e : Rw), o[i]? = some e → (bitsK e.m 64)[0]? = some (low e.m)
  far : ∀ (i k : Nat) (e f : Rw), o[i]? = some e → o[k]? = some f → k ≠ i → ∀ j ∈ bitsK f.m 64, j ≠ low e.m
theorem rd_law {N : Nat} {l : List Eqn} (hv : validE l N = true) : (rdE l N = ([], 3) ∧ ∀ vs, holdL vs l = false) ∨ ∃ o, rdE l N = (o.map rowEqn, 0) ∧ RdLaw N l o := by
  obtain ⟨N', hN', h64, hl64, hok⟩ := valid_ok hv
  obtain rfl : N = N' := by omega
  have hlt : ∀ e ∈ l.map eqnRw, e.m < 2 ^ N := fun e he => by
    obtain ⟨a, ha, rfl⟩ := List.mem_map.1 he
    refine Nat.lt_pow_two_of_testBit _ fun j hj => ?_
    show (maskB a.bits).testBit j = false
    rw [maskB_bit, List.any_eq_false]
    intro x hx
    have := (hok a ha).b x hx
    simp; omega
  cases hr : redS (l.map eqnRw) with
  | none =>
    refine .inl ⟨rdE_none hv hr, fun vs => ?_⟩
    rw [← Bool.not_eq_true, holdL_sol hok h64]
    exact redS_ok h64 hlt hr (valX vs)
  | some o =>
    obtain ⟨r1, r2, r3, r4, r5⟩ := redS_ok h64 hlt hr
    rw [List.length_map] at r5
    have hok2 : ∀ e ∈ o.map rowEqn, EqOk N e := fun e he => by
      obtain ⟨a, ha, rfl⟩ := List.mem_map.1 he
      exact rowEqn_ok (r3 a ha)
    have hv2 : validE (o.map rowEqn) N = true := ok_valid h64 (by rw [List.length_map]; omega) hok2
    have hb := rows_back r1.lt
    have h0 : ∀ e ∈ o, e.m ≠ 0 := fun e he e0 => by have := r1.on e he; rw [e0] at this; simp at this
    refine .inr ⟨o, rdE_some hv hr, by omega, hok2, hv2, ?_, fun vs => ?_, fun i e he => ?_, fun i k e f he hf hne j hj e2 => ?_⟩
    · refine (rdE_some (o := o) hv2 ?_)
      rw [hb]
      cases hr2 : redS o with
      | none =>
        have := redS_ok h64 r3 hr2
        obtain ⟨x, hx, _⟩ := r1.sol (fun _ => false)
        exact absurd hx (this x)
      | some o2 =>
        obtain ⟨q1, q2, _, q4, _⟩ := redS_ok h64 r3 hr2
        rw [red_one q1 r1 q2 r2 q4]
    · rw [Bool.eq_iff_iff, holdL_sol hok2 h64, holdL_sol hok h64, hb]
      exact r4 _
    · have hm := List.mem_of_getElem? he
      exact bitsK_head (h0 e hm) (r1.lt e hm)
    · subst e2
      have hbit := (bitsK_mem.1 hj).2
      obtain ⟨hi, rfl⟩ := List.getElem?_eq_some_iff.1 he
      obtain ⟨hk, rfl⟩ := List.getElem?_eq_some_iff.1 hf
      have hsep := List.pairwise_iff_getElem.1 r1.sep
      rcases Nat.lt_or_gt_of_ne hne with h | h
      · rw [(hsep k i hk hi h).2] at hbit; cases hbit
      · rw [(hsep i k hi hk h).1] at hbit; cases hbit
end Go.Proofs.YthchdbjgjnpooaaDoor
