/- How many bits of a number are 1: whether that is odd. Plain laws. -/
import Derived.Test.YtklalbbacbaoiaaFillM
namespace Go.Proofs.Ytklalbbacbaoiaa
set_option linter.unusedVariables false

def par (n m : Nat) : Bool := dotN n m (fun _ => true)
theorem and_split (A a M m : Nat) (ha : a < 256) (hm : m < 256) : (256 * A + a) &&& (256 * M + m) = 256 * (A &&& M) + (a &&& m) := by
  have hc : a &&& m < 256 := Nat.lt_of_le_of_lt Nat.and_le_left ha
  refine Nat.eq_of_testBit_eq fun i => ?_
  rw [show (256 : Nat) = 2 ^ 8 from rfl] at *
  rw [Nat.testBit_and, Nat.testBit_two_pow_mul_add _ ha, Nat.testBit_two_pow_mul_add _ hm, Nat.testBit_two_pow_mul_add _ hc]
  split <;> rw [Nat.testBit_and]
/-- a byte, n times -/
def rep (c : Nat) : Nat → Nat
  | 0 => 0
  | n + 1 => 256 * rep c n + c
/-- the sum of the bytes' values by a function -/
def byS (g : Nat → Nat) : Nat → Nat → Nat
  | 0, _ => 0
  | n + 1, x => 256 * byS g n (x / 256) + g (x % 256)
def p1 (x M : Nat) : Nat := (x / 2 &&& M) + (x &&& M)
def p2 (x M : Nat) : Nat := (x / 4 &&& M) + (x &&& M)
def p3 (x M : Nat) : Nat := (x / 16 + x) &&& M
theorem p1_byte : ∀ t : Fin 2, ∀ a : Fin 256, ((128 * t.val + a.val / 2) &&& 0x55) + (a.val &&& 0x55) = p1 a.val 0x55 ∧ p1 a.val 0x55 < 256 := by decide +kernel
theorem p2_byte : ∀ t : Fin 4, ∀ a : Fin 256, ((64 * t.val + a.val / 4) &&& 0x33) + (a.val &&& 0x33) = p2 a.val 0x33 ∧ p2 a.val 0x33 < 256 := by decide +kernel
theorem p3_byte : ∀ t : Fin 5, ∀ a : Fin 256, (16 * t.val + a.val / 16 + a.val) &&& 0x0f = p3 a.val 0x0f := by decide +kernel
theorem p12_byte : ∀ a : Fin 256, p2 (p1 a.val 0x55) 0x33 % 16 ≤ 4 ∧ p2 (p1 a.val 0x55) 0x33 / 16 ≤ 4 ∧ p3 (p2 (p1 a.val 0x55) 0x33) 0x0f ≤ 8 ∧ (p3 (p2 (p1 a.val 0x55) 0x33) 0x0f % 2 == 1) = par 8 a.val := by decide +kernel
theorem p1_by (n x : Nat) (hx : x < 256 ^ n) : p1 x (rep 0x55 n) = byS (fun a => p1 a 0x55) n x := by
  induction n generalizing x with
  | zero => have : x = 0 := by simpa using hx
            subst this; rfl
  | succ n ih =>
    have hA : x / 256 < 256 ^ n := Nat.div_lt_of_lt_mul (by rw [Nat.pow_succ] at hx; rwa [Nat.mul_comm])
    have hb := p1_byte ⟨x / 256 % 2, Nat.mod_lt _ (by omega)⟩ ⟨x % 256, Nat.mod_lt _ (by omega)⟩
    simp only at hb
    rw [byS, ← ih _ hA]
    unfold p1 at *
    rw [rep]
    have e1 : x / 2 = 256 * (x / 256 / 2) + (128 * (x / 256 % 2) + x % 256 / 2) := by omega
    have e2 : x = 256 * (x / 256) + x % 256 := by omega
    rw [e1, and_split _ _ _ _ (by omega) (by omega)]
    conv => lhs; rhs; rw [e2, and_split _ _ _ _ (by omega) (by omega)]
    omega
theorem p2_by (n x : Nat) (hx : x < 256 ^ n) : p2 x (rep 0x33 n) = byS (fun a => p2 a 0x33) n x := by
  induction n generalizing x with
  | zero => have : x = 0 := by simpa using hx
            subst this; rfl
  | succ n ih =>
    have hA : x / 256 < 256 ^ n := Nat.div_lt_of_lt_mul (by rw [Nat.pow_succ] at hx; rwa [Nat.mul_comm])
    have hb := p2_byte ⟨x / 256 % 4, Nat.mod_lt _ (by omega)⟩ ⟨x % 256, Nat.mod_lt _ (by omega)⟩
    simp only at hb
    rw [byS, ← ih _ hA]
    unfold p2 at *
    rw [rep]
    have e1 : x / 4 = 256 * (x / 256 / 4) + (64 * (x / 256 % 4) + x % 256 / 4) := by omega
    have e2 : x = 256 * (x / 256) + x % 256 := by omega
    rw [e1, and_split _ _ _ _ (by omega) (by omega)]
    conv => lhs; rhs; rw [e2, and_split _ _ _ _ (by omega) (by omega)]
    omega
/-- every byte of x has a property -/
def byA (p : Nat → Prop) : Nat → Nat → Prop
  | 0, _ => True
  | n + 1, x => p (x % 256) ∧ byA p n (x / 256)
theorem byS_lt {g : Nat → Nat} (hg : ∀ a, a < 256 → g a < 256) (n x : Nat) : byS g n x < 256 ^ n := by
  induction n generalizing x with
  | zero => show 0 < 1; omega
  | succ n ih =>
    have h1 := ih (x / 256)
    have h2 := hg (x % 256) (Nat.mod_lt _ (by omega))
    rw [byS, Nat.pow_succ]; omega
theorem byS_at {g : Nat → Nat} (hg : ∀ a, a < 256 → g a < 256) (n x : Nat) : byS g (n + 1) x % 256 = g (x % 256) ∧ byS g (n + 1) x / 256 = byS g n (x / 256) := by
  have h2 := hg (x % 256) (Nat.mod_lt _ (by omega))
  rw [byS]; omega
theorem byS_comp {g h : Nat → Nat} (hg : ∀ a, a < 256 → g a < 256) (n x : Nat) : byS h n (byS g n x) = byS (fun a => h (g a)) n x := by
  induction n generalizing x with
  | zero => rfl
  | succ n ih =>
    obtain ⟨h1, h2⟩ := byS_at hg n x
    conv => lhs; rw [byS]
    rw [h1, h2, ih]; rfl
theorem p3_by (n x : Nat) (hx : x < 256 ^ n) (h : byA (fun a => a % 16 ≤ 4 ∧ a / 16 ≤ 4) n x) : p3 x (rep 0x0f n) = byS (fun a => p3 a 0x0f) n x := by
  induction n generalizing x with
  | zero => have : x = 0 := by simpa using hx
            subst this; rfl
  | succ n ih =>
    have hA : x / 256 < 256 ^ n := Nat.div_lt_of_lt_mul (by rw [Nat.pow_succ] at hx; rwa [Nat.mul_comm])
    obtain ⟨⟨ha1, ha2⟩, hr⟩ := h
    have ht : x / 256 % 16 ≤ 4 := by
      cases n with
      | zero => have : x / 256 = 0 := by simpa using hA
                omega
      | succ n => have := hr.1.1; omega
    have hb := p3_byte ⟨x / 256 % 16, by omega⟩ ⟨x % 256, Nat.mod_lt _ (by omega)⟩
    simp only at hb
    rw [byS, ← ih _ hA hr]
    unfold p3 at *
    rw [rep]
    have e1 : x / 16 + x = 256 * (x / 256 / 16 + x / 256) + (16 * (x / 256 % 16) + x % 256 / 16 + x % 256) := by omega
    rw [e1, and_split _ _ _ _ (by omega) (by omega), hb]
theorem byA_S {g : Nat → Nat} {p : Nat → Prop} (hg : ∀ a, a < 256 → g a < 256) (hp : ∀ a, a < 256 → p (g a)) (n x : Nat) : byA p n (byS g n x) := by
  induction n generalizing x with
  | zero => trivial
  | succ n ih =>
    obtain ⟨h1, h2⟩ := byS_at hg n x
    refine ⟨?_, ?_⟩
    · rw [h1]; exact hp _ (Nat.mod_lt _ (by omega))
    · rw [h2]; exact ih _
theorem dotN_add (n k m : Nat) : par (n + k) m = (par n m ^^ par k (m / 2 ^ n)) := by
  induction k with
  | zero => simp [par, dotN]
  | succ k ih =>
    unfold par at *
    rw [← Nat.add_assoc, dotN, ih, dotN, Nat.testBit_div_two_pow, Nat.add_comm k n, Bool.xor_assoc]
theorem par_mod (m : Nat) : par 8 (m % 256) = par 8 m := by
  unfold par
  simp only [dotN, show (256 : Nat) = 2 ^ 8 from rfl, Nat.testBit_mod_two_pow]
  simp
def popB (a : Nat) : Nat := p3 (p2 (p1 a 0x55) 0x33) 0x0f
theorem popB_ok (a : Nat) (h : a < 256) : popB a ≤ 8 ∧ (popB a % 2 == 1) = par 8 a := ⟨(p12_byte ⟨a, h⟩).2.2.1, (p12_byte ⟨a, h⟩).2.2.2⟩
/-- the three steps within the bytes -/
theorem pop_by (x : Nat) (hx : x < 256 ^ 8) : p3 (p2 (p1 x (rep 0x55 8)) (rep 0x33 8)) (rep 0x0f 8) = byS popB 8 x := by
  have g1 : ∀ a, a < 256 → p1 a 0x55 < 256 := fun a h => (p1_byte ⟨0, by omega⟩ ⟨a, h⟩).2
  have g2 : ∀ a, a < 256 → p2 a 0x33 < 256 := fun a h => (p2_byte ⟨0, by omega⟩ ⟨a, h⟩).2
  rw [p1_by 8 x hx, p2_by 8 _ (byS_lt g1 8 x), byS_comp g1, p3_by 8 _ (byS_lt (fun a h => g2 _ (g1 a h)) 8 x) (byA_S (fun a h => g2 _ (g1 a h)) (fun a h => ⟨(p12_byte ⟨a, h⟩).1, (p12_byte ⟨a, h⟩).2.1⟩) 8 x), byS_comp (fun a h => g2 _ (g1 a h))]
  rfl
/-- the sums over the bytes -/
theorem pop_sum (x z a b c : Nat) (hz : z = byS popB 8 x) (ha : a = z + z / 256) (hb : b = a + a / 65536) (hc : c = b + b / 4294967296) : c < 18446744073709551616 ∧ a < 18446744073709551616 ∧ b < 18446744073709551616 ∧ (c % 2 == 1) = par 64 x := by
  have e := hz
  simp only [byS] at e
  have q0 := popB_ok (x % 256) (Nat.mod_lt _ (by omega))
  have q1 := popB_ok (x / 256 % 256) (Nat.mod_lt _ (by omega))
  have q2 := popB_ok (x / 256 / 256 % 256) (Nat.mod_lt _ (by omega))
  have q3 := popB_ok (x / 256 / 256 / 256 % 256) (Nat.mod_lt _ (by omega))
  have q4 := popB_ok (x / 256 / 256 / 256 / 256 % 256) (Nat.mod_lt _ (by omega))
  have q5 := popB_ok (x / 256 / 256 / 256 / 256 / 256 % 256) (Nat.mod_lt _ (by omega))
  have q6 := popB_ok (x / 256 / 256 / 256 / 256 / 256 / 256 % 256) (Nat.mod_lt _ (by omega))
  have q7 := popB_ok (x / 256 / 256 / 256 / 256 / 256 / 256 / 256 % 256) (Nat.mod_lt _ (by omega))
  have eP : par 64 x = (par 8 (x % 256) ^^ par 8 (x / 256 % 256) ^^ par 8 (x / 256 / 256 % 256) ^^ par 8 (x / 256 / 256 / 256 % 256) ^^ par 8 (x / 256 / 256 / 256 / 256 % 256) ^^ par 8 (x / 256 / 256 / 256 / 256 / 256 % 256) ^^ par 8 (x / 256 / 256 / 256 / 256 / 256 / 256 % 256) ^^ par 8 (x / 256 / 256 / 256 / 256 / 256 / 256 / 256 % 256)) := by
    simp only [par_mod]
    have d : ∀ k m, par (8 * (k + 1)) m = (par 8 m ^^ par (8 * k) (m / 256)) := fun k m => by
      rw [show 8 * (k + 1) = 8 + 8 * k by omega, dotN_add]
    rw [show 64 = 8 * (7 + 1) from rfl, d 7, d 6, d 5, d 4, d 3, d 2, d 1, d 0]
    simp only [show par (8 * 0) = fun _ => false from rfl, Bool.xor_false, Bool.xor_assoc]
  rw [eP, ← q0.2, ← q1.2, ← q2.2, ← q3.2, ← q4.2, ← q5.2, ← q6.2, ← q7.2]
  clear eP hz
  replace q0 := q0.1
  replace q1 := q1.1
  replace q2 := q2.1
  replace q3 := q3.1
  replace q4 := q4.1
  replace q5 := q5.1
  replace q6 := q6.1
  replace q7 := q7.1
  generalize popB (x % 256) = r0 at *
  generalize popB (x / 256 % 256) = r1 at *
  generalize popB (x / 256 / 256 % 256) = r2 at *
  generalize popB (x / 256 / 256 / 256 % 256) = r3 at *
  generalize popB (x / 256 / 256 / 256 / 256 % 256) = r4 at *
  generalize popB (x / 256 / 256 / 256 / 256 / 256 % 256) = r5 at *
  generalize popB (x / 256 / 256 / 256 / 256 / 256 / 256 % 256) = r6 at *
  generalize popB (x / 256 / 256 / 256 / 256 / 256 / 256 / 256 % 256) = r7 at *
  have ea : a = (r0 + r1) + 256 * ((r1 + r2) + 256 * ((r2 + r3) + 256 * ((r3 + r4) + 256 * ((r4 + r5) + 256 * ((r5 + r6) + 256 * ((r6 + r7) + 256 * r7)))))) := by omega
  have eb : b = (r0 + r1 + r2 + r3) + 256 * ((r1 + r2 + r3 + r4) + 256 * ((r2 + r3 + r4 + r5) + 256 * ((r3 + r4 + r5 + r6) + 256 * ((r4 + r5 + r6 + r7) + 256 * ((r5 + r6 + r7) + 256 * ((r6 + r7) + 256 * r7)))))) := by omega
  have ec : c = (r0 + r1 + r2 + r3 + r4 + r5 + r6 + r7) + 256 * ((r1 + r2 + r3 + r4 + r5 + r6 + r7) + 256 * ((r2 + r3 + r4 + r5 + r6 + r7) + 256 * ((r3 + r4 + r5 + r6 + r7) + 256 * ((r4 + r5 + r6 + r7) + 256 * ((r5 + r6 + r7) + 256 * ((r6 + r7) + 256 * r7)))))) := by omega
  refine ⟨by omega, by omega, by omega, ?_⟩
  have hc2 : c % 2 = (r0 + r1 + r2 + r3 + r4 + r5 + r6 + r7) % 2 := by omega
  rw [hc2]
  have m2 : ∀ s t : Nat, ((s + t) % 2 == 1) = ((s % 2 == 1) ^^ (t % 2 == 1)) := fun s t => by
    rcases Nat.mod_two_eq_zero_or_one s with h | h <;> rcases Nat.mod_two_eq_zero_or_one t with h' | h' <;> simp [Nat.add_mod, h, h']
  simp only [m2, Bool.xor_assoc]
end Go.Proofs.Ytklalbbacbaoiaa
