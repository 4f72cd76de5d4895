/- The plain law of FnLedger: a changed bit is found at its entry; an appended entry keeps a ledger. -/
import Derived.Test.YtkpjjohanbiagaaDoorAppLaw
import Derived.Test.YtkpjjohanbiagaaDoorJoinLaw
import Derived.Test.YtkpjjohanbiagaaDoorCrcX
import Derived.Test.YtkpjjohanbiagaaDoorRdlP
namespace Go.Proofs.YtkpjjohanbiagaaDoor
set_option linter.unusedVariables false
set_option linter.unusedSimpArgs false
open Go.RowKit
theorem word_list (n : Nat) : (word n).data.toList = [UInt8.ofNat (n / 256), UInt8.ofNat (n % 256)] := by
  unfold word
  rw [strOfNums_data]
  have h1 : ((n : Int) / 256).toNat = n / 256 := by omega
  have h2 : ((n : Int) % 256).toNat = n % 256 := by omega
  simp [h1, h2]
theorem ofNat_ne {a b : Nat} (ha : a < 256) (hb : b < 256) (h : a ≠ b) : UInt8.ofNat a ≠ UInt8.ofNat b := fun e => h (by
  have := congrArg UInt8.toNat e
  rw [UInt8.toNat_ofNat', UInt8.toNat_ofNat'] at this; omega)
theorem pow_split : ∀ j : Fin 16, (2 ^ j.val / 256 = 0 ∧ 2 ^ j.val % 256 ≠ 0) ∨ (2 ^ j.val / 256 ≠ 0 ∧ 2 ^ j.val % 256 = 0) := by decide
theorem pow_lt : ∀ j : Fin 16, 2 ^ j.val < 65536 := by decide
theorem xor_self_ne {a d : Nat} (h : d ≠ 0) : a ^^^ d ≠ a := fun e => h (by
  have := congrArg (a ^^^ ·) e
  simpa [← Nat.xor_assoc] using this)
theorem flip_bytes {b : Nat} (hb : b < 65536) (j : Fin 16) : ∃ h l h' l', (word b).data.toList = [h, l] ∧ (word (b ^^^ 2 ^ j.val)).data.toList = [h', l'] ∧ ((h ≠ h' ∧ l = l') ∨ (h = h' ∧ l ≠ l')) := by
  refine ⟨_, _, _, _, word_list _, word_list _, ?_⟩
  have hx : b ^^^ 2 ^ j.val < 65536 := Nat.xor_lt_two_pow (n := 16) hb (pow_lt j)
  have e1 : (b ^^^ 2 ^ j.val) / 256 = b / 256 ^^^ 2 ^ j.val / 256 := by
    have h : ∀ x, x / 256 = x >>> 8 := fun x => by rw [Nat.shiftRight_eq_div_pow]
    rw [h, h, h, Nat.shiftRight_xor_distrib]
  have e2 : (b ^^^ 2 ^ j.val) % 256 = b % 256 ^^^ 2 ^ j.val % 256 := Nat.xor_mod_two_pow (n := 8)
  rcases pow_split j with ⟨h1, h2⟩ | ⟨h1, h2⟩
  · right
    rw [h1, Nat.xor_zero] at e1
    refine ⟨by rw [e1], ofNat_ne (by omega) (by omega) ?_⟩
    rw [e2]; exact fun e => xor_self_ne h2 e.symm
  · left
    rw [h2, Nat.xor_zero] at e2
    refine ⟨ofNat_ne (by omega) (by omega) ?_, by rw [e2]⟩
    rw [e1]; exact fun e => xor_self_ne h1 e.symm
theorem chain_list (p : Nat) (v : ByteArray) (b a : Nat) : chainL p v b a = crcL ((word p).data.toList ++ v.data.toList ++ (word b).data.toList ++ (word a).data.toList) 65535 := by
  unfold chainL crcB
  simp
theorem chain_b (p : Nat) (v : ByteArray) {b : Nat} (a : Nat) (hb : b < 65536) (j : Fin 16) : chainL p v (b ^^^ 2 ^ j.val) a ≠ chainL p v b a := by
  obtain ⟨h, l, h', l', e1, e2, hc⟩ := flip_bytes hb j
  rw [chain_list, chain_list, e1, e2]
  rcases hc with ⟨hc, rfl⟩ | ⟨rfl, hc⟩
  · have := crcL_byte ((word p).data.toList ++ v.data.toList) (l :: (word a).data.toList) (v := 65535) (by decide) hc
    simpa using this.symm
  · have := crcL_byte ((word p).data.toList ++ v.data.toList ++ [h]) ((word a).data.toList) (v := 65535) (by decide) hc
    simpa using this.symm
theorem chain_a (p : Nat) (v : ByteArray) (b : Nat) {a : Nat} (ha : a < 65536) (j : Fin 16) : chainL p v b (a ^^^ 2 ^ j.val) ≠ chainL p v b a := by
  obtain ⟨h, l, h', l', e1, e2, hc⟩ := flip_bytes ha j
  rw [chain_list, chain_list, e1, e2]
  rcases hc with ⟨hc, rfl⟩ | ⟨rfl, hc⟩
  · have := crcL_byte ((word p).data.toList ++ v.data.toList ++ (word b).data.toList) [l] (v := 65535) (by decide) hc
    simpa using this.symm
  · have := crcL_byte ((word p).data.toList ++ v.data.toList ++ (word b).data.toList ++ [h]) [] (v := 65535) (by decide) hc
    simpa using this.symm
/-- a number with its j-th bit turned -/
def flipI (x : Int) (j : Nat) : Int := ((x.toNat ^^^ 2 ^ j : Nat) : Int)
theorem ent_b {i : Nat} {last prev : Int} {e : Ent} (j : Fin 16) (h : entOk i last prev e = true) : entOk i last prev { e with before := flipI e.before j.val } = false := by
  simp only [entOk, Bool.and_eq_true, Bool.or_eq_true, beq_iff_eq, decide_eq_true_eq] at h
  obtain ⟨⟨⟨⟨⟨_, _⟩, h4⟩, _⟩, hc⟩, _⟩ := h
  have hb := inB_yes h4
  have hn : (e.chain == chainI last e.verb (flipI e.before j.val) e.after) = false := by
    rw [hc, Bool.eq_false_iff]
    intro e1
    have e2 : (chainL last.toNat e.verb e.before.toNat e.after.toNat : Int) = (chainL last.toNat e.verb (flipI e.before j.val).toNat e.after.toNat : Int) := eq_of_beq e1
    exact chain_b last.toNat e.verb e.after.toNat (b := e.before.toNat) (by omega) j (by have : (flipI e.before j.val).toNat = e.before.toNat ^^^ 2 ^ j.val := Int.toNat_natCast _; rw [this] at e2; omega)
  simp [entOk, hn]
theorem ent_a {i : Nat} {last prev : Int} {e : Ent} (j : Fin 16) (h : entOk i last prev e = true) : entOk i last prev { e with after := flipI e.after j.val } = false := by
  simp only [entOk, Bool.and_eq_true, Bool.or_eq_true, beq_iff_eq, decide_eq_true_eq] at h
  obtain ⟨⟨⟨⟨⟨_, _⟩, _⟩, h4⟩, hc⟩, _⟩ := h
  have hb := inB_yes h4
  have hn : (e.chain == chainI last e.verb e.before (flipI e.after j.val)) = false := by
    rw [hc, Bool.eq_false_iff]
    intro e1
    have e2 : (chainL last.toNat e.verb e.before.toNat e.after.toNat : Int) = (chainL last.toNat e.verb e.before.toNat (flipI e.after j.val).toNat : Int) := eq_of_beq e1
    exact chain_a last.toNat e.verb e.before.toNat (a := e.after.toNat) (by omega) j (by have : (flipI e.after j.val).toNat = e.after.toNat ^^^ 2 ^ j.val := Int.toNat_natCast _; rw [this] at e2; omega)
  simp [entOk, hn]
theorem ent_c {i : Nat} {last prev : Int} {e : Ent} (j : Fin 16) (h : entOk i last prev e = true) : entOk i last prev { e with chain := flipI e.chain j.val } = false := by
  simp only [entOk, Bool.and_eq_true, Bool.or_eq_true, beq_iff_eq, decide_eq_true_eq] at h
  obtain ⟨⟨⟨⟨⟨_, _⟩, _⟩, _⟩, hc⟩, _⟩ := h
  have hb := chainI_bd last e.verb e.before e.after
  have hn : (flipI e.chain j.val == chainI last e.verb e.before e.after) = false := by
    rw [← hc] at hb ⊢
    rw [Bool.eq_false_iff]
    intro e1
    have e2 := eq_of_beq e1
    refine xor_self_ne (a := e.chain.toNat) (d := 2 ^ j.val) (Nat.pos_iff_ne_zero.1 (Nat.two_pow_pos _)) ?_
    unfold flipI at e2; omega
  simp [entOk, hn]
/-- an entry that is wrong wherever the right one was right, is found -/
theorem broken_set {e' : Ent} : ∀ {l : List Ent} {k : Nat} {e : Ent} {i : Nat} {last prev : Int}, broken i last prev l < 0 → l[k]? = some e →
    (∀ i last prev, entOk i last prev e = true → entOk i last prev e' = false) → broken i last prev (l.set k e') = ((i + k : Nat) : Int) := by
  intro l
  induction l with
  | nil => intro k e i last prev _ he; simp at he
  | cons a r ih =>
    intro k e i last prev hb he hx
    rw [broken] at hb
    split at hb
    · rename_i hok
      cases k with
      | zero =>
        simp at he; subst he
        rw [List.set_cons_zero, broken, hx _ _ _ hok]; simp
      | succ k =>
        rw [List.set_cons_succ, broken, if_pos hok, ih hb (by simpa using he) hx]
        congr 1; omega
    · omega
theorem appE_ok {l : List Ent} {s a b : ByteArray} (h : (appE l s a b).2 = 0) :
    (appE l s a b).1 = l ++ [nextE l s (crcB a : Int) (crcB b : Int)] ∧ ledgerOk (l ++ [nextE l s (crcB a : Int) (crcB b : Int)]) = true := by
  unfold appE at h ⊢
  split at h
  · exact absurd h (by decide)
  rename_i h1
  rw [if_neg h1]
  split at h
  · exact absurd h (by decide)
  rename_i h2
  rw [if_neg h2]
  split at h
  · exact absurd h (by decide)
  rename_i h3
  rw [if_neg h3]
  refine ⟨rfl, ?_⟩
  have h4 : ledgerOk l = true ∧ verbOk s.data.toList = true := by simpa using h1
  have hb : broken 0 0 0 l < 0 := by simpa [ledgerOk] using h4.1
  have ha := crcB_bd a
  have hb2 := crcB_bd b
  have : broken 0 0 0 (l ++ [nextE l s (crcB a : Int) (crcB b : Int)]) < 0 := broken_snoc hb (by
    simp only [entOk, nextE, Bool.and_eq_true, Bool.or_eq_true, beq_iff_eq, decide_eq_true_eq]
    refine ⟨⟨⟨⟨⟨by omega, h4.2⟩, inB_t ha⟩, inB_t hb2⟩, by rw [endC_last]⟩, ?_⟩
    by_cases h0 : l = []
    · left; simp [h0]
    · right
      rw [endA_last h0]
      have h5 : ¬ (lastA l != (crcB a : Int)) = true := fun e => h2 ⟨h0, e⟩
      exact (by simpa using h5 : lastA l = (crcB a : Int)).symm)
  simpa [ledgerOk] using this
theorem ledT_le {l : List Ent} (h : ∀ e ∈ l, (entT e).length ≤ 80) : (ledT l).length ≤ 80 * l.length := by
  induction l with
  | nil => simp [ledT]
  | cons e l ih =>
    have h1 := h e (by simp)
    have h2 := ih (fun x hx => h x (by simp [hx]))
    unfold ledT at h2 ⊢
    rw [List.map_cons, List.flatten_cons, List.length_append, List.length_cons]
    omega
theorem ledS_le {l : List Ent} (h : ledgerOk l = true) : (strB (ledT l)).size ≤ 2400 := by
  rw [strB_size]
  have h1 := ledT_le (l := l) (fun e he => entT_le (led_ent h he))
  have h2 := led_len h
  omega
theorem states_last (c : Int) (e : Ent) (he : e.after = c) : ∀ (l : List Ent) (k : Nat), (statesFrom c k (l ++ [e])).length ≠ 0
  | [], k => by simp [statesFrom, he]
  | a :: r, k => by
    rw [List.cons_append, statesFrom]
    split
    · simp
    · exact states_last c e he r (k + 1)
theorem states_next {l : List Ent} {s a b : ByteArray} (h : ledgerOk (l ++ [nextE l s (crcB a : Int) (crcB b : Int)]) = true) : (states (l ++ [nextE l s (crcB a : Int) (crcB b : Int)]) b).length ≠ 0 := by
  unfold states
  rw [if_pos h]
  exact states_last (crcB b : Int) (nextE l s (crcB a : Int) (crcB b : Int)) rfl l 0
theorem flip_bad {l : List Ent} (h : ledgerOk l = true) {k : Nat} {e e' : Ent} (he : l[k]? = some e) (hx : ∀ i last prev, entOk i last prev e = true → entOk i last prev e' = false) : broken 0 0 0 (l.set k e') = (k : Int) ∧ ledgerOk (l.set k e') = false := by
  have h1 := broken_set (i := 0) (last := 0) (prev := 0) (l := l) (by simpa [ledgerOk] using h) he hx
  rw [Nat.zero_add] at h1
  refine ⟨h1, ?_⟩
  unfold ledgerOk
  rw [h1]
  exact decide_eq_false (by omega)
end Go.Proofs.YtkpjjohanbiagaaDoor
