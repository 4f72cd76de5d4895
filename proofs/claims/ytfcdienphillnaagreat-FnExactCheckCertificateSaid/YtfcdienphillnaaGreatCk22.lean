/- Sums of effects: whether a number is one, by the kept base and by the equations; two neighbouring bytes are told by the check value. Plain laws. isSum: the walk. -/
import Derived.Test.YtfcdienphillnaaGreatCk15
import Derived.Test.YtfcdienphillnaaGreatCk17
namespace Go.Proofs.YtfcdienphillnaaGreat
set_option linter.unusedVariables false
set_option linter.unusedSimpArgs false

/-- x is the exclusive or of some numbers of the list -/
def Spn : List Nat → Nat → Prop
  | [], x => x = 0
  | y :: l, x => Spn l x ∨ Spn l (x ^^^ y)
theorem Spn.zero (l : List Nat) : Spn l 0 := by
  induction l with
  | nil => rfl
  | cons y l ih => exact .inl ih
theorem xcancel (a b : Nat) : a ^^^ b ^^^ b = a := by rw [Nat.xor_assoc, Nat.xor_self, Nat.xor_zero]
theorem xright (a b c : Nat) : a ^^^ b ^^^ c = a ^^^ c ^^^ b := by rw [Nat.xor_assoc, Nat.xor_comm b c, ← Nat.xor_assoc]
theorem Spn.xor {l : List Nat} {a b : Nat} (ha : Spn l a) (hb : Spn l b) : Spn l (a ^^^ b) := by
  induction l generalizing a b with
  | nil => show a ^^^ b = 0; rw [show a = 0 from ha, show b = 0 from hb]; rfl
  | cons y l ih =>
    rcases ha with ha | ha <;> rcases hb with hb | hb
    · exact .inl (ih ha hb)
    · exact .inr (by rw [Nat.xor_assoc]; exact ih ha hb)
    · exact .inr (by rw [xright]; exact ih ha hb)
    · refine .inl ?_
      have := ih ha hb
      rwa [show a ^^^ y ^^^ (b ^^^ y) = a ^^^ b by rw [← Nat.xor_assoc, xright a y b, xcancel]] at this
theorem Spn.self {l : List Nat} {y : Nat} (h : y ∈ l) : Spn l y := by
  induction l with
  | nil => cases h
  | cons z l ih =>
    rcases List.mem_cons.1 h with rfl | h
    · exact .inr (by rw [Nat.xor_self]; exact Spn.zero l)
    · exact .inl (ih h)
theorem Spn.snoc {l : List Nat} {y x : Nat} : Spn (l ++ [y]) x ↔ Spn l x ∨ Spn l (x ^^^ y) := by
  induction l generalizing x with
  | nil => exact Iff.rfl
  | cons z l ih =>
    show (Spn (l ++ [y]) x ∨ Spn (l ++ [y]) (x ^^^ z)) ↔ ((Spn l x ∨ Spn l (x ^^^ z)) ∨ (Spn l (x ^^^ y) ∨ Spn l (x ^^^ y ^^^ z)))
    rw [ih, ih, xright x z y]
    constructor
    · rintro ((h | h) | (h | h))
      · exact .inl (.inl h)
      · exact .inr (.inl h)
      · exact .inl (.inr h)
      · exact .inr (.inr h)
    · rintro ((h | h) | (h | h))
      · exact .inl (.inl h)
      · exact .inr (.inl h)
      · exact .inl (.inr h)
      · exact .inr (.inr h)
def redM (base : List Nat) (y : Nat) : Nat := base.foldl (fun y b => min y (y ^^^ b)) y
def addM (base : List Nat) (y : Nat) : List Nat := if redM base y = 0 then base else base ++ [redM base y]
def baseM (l : List Nat) : List Nat := l.foldl addM []
/-- each number's topmost bit is in no later one -/
def Tri (base : List Nat) : Prop := (∀ b ∈ base, b ≠ 0) ∧ base.Pairwise fun a b => b.testBit (top a) = false
theorem min_clears {y b : Nat} (hb : b ≠ 0) : min y (y ^^^ b) = if y.testBit (top b) then y ^^^ b else y := by
  have hx : ∀ j, top b < j → y.testBit j = (y ^^^ b).testBit j := fun j hj => by
    have : b.testBit j = false := by rw [Bool.eq_false_iff]; intro e; have := top_ge e; omega
    rw [Nat.testBit_xor, this, Bool.xor_false]
  have ht := top_on b hb
  cases h : y.testBit (top b)
  · have : y < y ^^^ b := lt_of_bit h (by rw [Nat.testBit_xor, h, ht]; rfl) hx
    rw [if_neg (by simp)]; omega
  · have : y ^^^ b < y := lt_of_bit (by rw [Nat.testBit_xor, h, ht]; rfl) h (fun j hj => (hx j hj).symm)
    rw [if_pos rfl]; omega
theorem redM_ok {base : List Nat} (h : Tri base) (y : Nat) : Spn base (redM base y ^^^ y) ∧ (∀ b ∈ base, (redM base y).testBit (top b) = false) ∧ (∀ k, (∀ b ∈ base, b.testBit k = false) → (redM base y).testBit k = y.testBit k) := by
  induction base generalizing y with
  | nil => exact ⟨Nat.xor_self y, (by intro b hb; cases hb), fun _ _ => rfl⟩
  | cons b base ih =>
    have hb := h.1 b (by simp)
    have hp := List.pairwise_cons.1 h.2
    obtain ⟨h1, h2, h3⟩ := ih ⟨fun a ha => h.1 a (by simp [ha]), hp.2⟩ (min y (y ^^^ b))
    have e : redM (b :: base) y = redM base (min y (y ^^^ b)) := rfl
    rw [e, min_clears hb] at *
    refine ⟨?_, fun a ha => ?_, fun k hk => ?_⟩
    · split at h1
      · rename_i hc; rw [if_pos hc]; exact .inr (by rwa [Nat.xor_assoc])
      · rename_i hc; rw [if_neg hc]; exact .inl h1
    · rcases List.mem_cons.1 ha with rfl | ha'
      · rw [h3 _ fun c hc => hp.1 c hc]
        split
        · rename_i hc; rw [Nat.testBit_xor, hc, top_on _ hb]; rfl
        · rename_i hc; simpa using hc
      · exact h2 a ha'
    · rw [h3 k fun c hc => hk c (by simp [hc])]
      split
      · rw [Nat.testBit_xor, hk b (by simp), Bool.xor_false]
      · rfl
theorem tri_zero {base : List Nat} (h : Tri base) {z : Nat} (hz : Spn base z) (hn : ∀ b ∈ base, z.testBit (top b) = false) : z = 0 := by
  induction base generalizing z with
  | nil => exact hz
  | cons b base ih =>
    have hp := List.pairwise_cons.1 h.2
    have ht : Tri base := ⟨fun a ha => h.1 a (by simp [ha]), hp.2⟩
    -- a sum of the later numbers does not bear b's topmost bit
    have hoff : ∀ {l : List Nat} {w : Nat}, (∀ c ∈ l, c.testBit (top b) = false) → Spn l w → w.testBit (top b) = false := by
      intro l
      induction l with
      | nil => intro w _ hw; rw [show w = 0 from hw, Nat.zero_testBit]
      | cons c l ihl =>
        intro w hc hw
        rcases hw with hw | hw
        · exact ihl (fun a ha => hc a (by simp [ha])) hw
        · have := ihl (fun a ha => hc a (by simp [ha])) hw
          rwa [Nat.testBit_xor, hc c (by simp), Bool.xor_false] at this
    rcases hz with hz | hz
    · exact ih ht hz fun a ha => hn a (by simp [ha])
    · have h1 := hoff hp.1 hz
      rw [Nat.testBit_xor, hn b (by simp), top_on b (h.1 b (by simp))] at h1; cases h1
theorem redM_zero {base : List Nat} (h : Tri base) (x : Nat) : redM base x = 0 ↔ Spn base x := by
  obtain ⟨h1, h2, _⟩ := redM_ok h x
  constructor
  · intro e; rwa [e, Nat.zero_xor] at h1
  · intro hx
    refine tri_zero h ?_ h2
    have := h1.xor hx
    rwa [xcancel] at this
theorem baseM_ok (l : List Nat) : Tri (baseM l) ∧ ∀ x, Spn (baseM l) x ↔ Spn l x := by
  have key : ∀ (l done base : List Nat), Tri base → (∀ x, Spn base x ↔ Spn done x) → Tri (l.foldl addM base) ∧ ∀ x, Spn (l.foldl addM base) x ↔ Spn (done ++ l) x := by
    intro l
    induction l with
    | nil => intro done base h1 h2; exact ⟨h1, fun x => by rw [List.append_nil]; exact h2 x⟩
    | cons y l ih =>
      intro done base h1 h2
      have := ih (done ++ [y]) (addM base y) ?_ ?_
      · rwa [List.append_assoc] at this
      · obtain ⟨_, r2, _⟩ := redM_ok h1 y
        unfold addM; split
        · exact h1
        · rename_i hne
          exact ⟨fun a ha => by
            rcases List.mem_append.1 ha with ha | ha
            · exact h1.1 a ha
            · obtain rfl : a = redM base y := by simpa using ha
              exact hne, List.pairwise_append.2 ⟨h1.2, by simp, fun a ha b hb => by
                obtain rfl : b = redM base y := by simpa using hb
                exact r2 a ha⟩⟩
      · intro x
        obtain ⟨r1, _, _⟩ := redM_ok h1 y
        rw [Spn.snoc, ← h2, ← h2]
        unfold addM; split
        · rename_i he
          have hy := (redM_zero h1 y).1 he
          exact ⟨.inl, fun h => h.elim id fun h => by have := h.xor hy; rwa [xcancel] at this⟩
        · rw [Spn.snoc]
          constructor
          · rintro (h | h)
            · exact .inl h
            · refine .inr ?_
              have := h.xor r1
              rwa [← Nat.xor_assoc, xcancel] at this
          · rintro (h | h)
            · exact .inl h
            · refine .inr ?_
              have := h.xor r1
              rwa [Nat.xor_comm (redM base y) y, ← Nat.xor_assoc, xcancel] at this
  exact key l [] [] ⟨(by intro b hb; cases hb), List.Pairwise.nil⟩ fun x => Iff.rfl
def isSumR (x : Nat) (l : List Nat) : Bool := redM (baseM l) x == 0
theorem isSumR_iff (x : Nat) (l : List Nat) : isSumR x l = true ↔ Spn l x := by
  obtain ⟨h1, h2⟩ := baseM_ok l
  rw [isSumR, beq_iff_eq, redM_zero h1, h2]
theorem effX_congr {n : Nat} {unk : List Nat} {x y : Nat → Bool} {k : Nat} (h : ∀ j, j < k → x j = y j) : effX n unk x k = effX n unk y k := by
  induction k with
  | zero => rfl
  | succ k ih => unfold effX; rw [ih fun j hj => h j (by omega), h k (by omega)]
theorem spn_eff (n : Nat) (unk : List Nat) {k : Nat} (hk : k ≤ unk.length) (r : Nat) : Spn ((unk.take k).map (effN n)) r ↔ ∃ x, effX n unk x k = r := by
  induction k generalizing r with
  | zero => simp only [List.take_zero, List.map_nil, effX]; exact ⟨fun h => ⟨fun _ => false, (show r = 0 from h).symm⟩, fun ⟨_, h⟩ => h.symm⟩
  | succ k ih =>
    have e : unk.take (k + 1) = unk.take k ++ [unk.getD k 0] := by
      rw [List.take_succ_eq_append_getElem (by omega), List.getD_eq_getElem?_getD, List.getElem?_eq_getElem (by omega)]; rfl
    rw [e, List.map_append, List.map_cons, List.map_nil, Spn.snoc, ih (by omega), ih (by omega)]
    constructor
    · rintro (⟨x, h⟩ | ⟨x, h⟩)
      · refine ⟨upd x k false, ?_⟩
        unfold effX; rw [upd_same, if_neg (by simp), effX_congr (y := x) fun j hj => upd_far (by omega), h]
      · refine ⟨upd x k true, ?_⟩
        unfold effX; rw [upd_same, if_pos rfl, effX_congr (y := x) fun j hj => upd_far (by omega), h, xcancel]
    · rintro ⟨x, h⟩
      unfold effX at h
      cases hx : x k
      · rw [hx, if_neg (by simp)] at h; exact .inl ⟨x, h⟩
      · rw [hx, if_pos rfl] at h; exact .inr ⟨x, by rw [← h, xcancel]⟩
/-- the equations can be solved exactly if the missing part is a sum of effects -/
theorem solv_spn {l unk : List Nat} {crc : Nat} (hl : ∀ y ∈ l, y < 256) (hn : unk.Nodup) (hub : ∀ b ∈ unk, b < 8 * l.length) (h64 : unk.length ≤ 64) (hc : crc < 65536) {o : Option (List Rw)} (ho : redS (rowsR l.length unk (crcN (clrN l unk) 65535 ^^^ crc)) = o) :
    o.isSome = true ↔ Spn (unk.map (effN l.length)) (crcN l 65535 ^^^ crc) := by
  have hok := redS_ok h64 (rowsR_lt l.length unk _) ho
  have h1 : o.isSome = true ↔ ∃ x, Sol (rowsR l.length unk (crcN (clrN l unk) 65535 ^^^ crc)) x := by
    cases o with
    | none => simp only [Option.isSome_none]; exact ⟨fun h => (by cases h), fun ⟨x, hx⟩ => absurd hx (hok x)⟩
    | some s => obtain ⟨k1, _, _, k4, _⟩ := hok; obtain ⟨x, hx, _⟩ := k1.sol (fun _ => false); exact ⟨fun _ => ⟨x, (k4 x).1 hx⟩, fun _ => rfl⟩
  rw [h1]
  have hr : crcN (clrN l unk) 65535 ^^^ crc < 65536 := Nat.xor_lt_two_pow (n := 16) (crcN_lt _ _ (by omega)) hc
  have h2 : (∃ x, Sol (rowsR l.length unk (crcN (clrN l unk) 65535 ^^^ crc)) x) ↔ Spn (unk.map (effN l.length)) (crcN (clrN l unk) 65535 ^^^ crc) := by
    have := spn_eff l.length unk (Nat.le_refl _) (crcN (clrN l unk) 65535 ^^^ crc)
    rw [List.take_length] at this
    rw [this]
    exact exists_congr fun x => rowsR_sol h64 hr x
  rw [h2]
  -- the data themselves are a filling of the cleared ones
  have e1 := (Agr.self (unk := unk) hl).is hl hn hub (x := fun k => bitAt l (unk.getD k 0)) fun _ _ => rfl
  have e2 := fillN_crc (x := fun k => bitAt l (unk.getD k 0)) hub (v := 65535) (by omega)
  rw [← e1] at e2
  have hs : Spn (unk.map (effN l.length)) (effX l.length unk (fun k => bitAt l (unk.getD k 0)) unk.length) := by
    have := (spn_eff l.length unk (Nat.le_refl _) _).2 ⟨fun k => bitAt l (unk.getD k 0), rfl⟩
    rwa [List.take_length] at this
  rw [e2]
  generalize effX l.length unk (fun k => bitAt l (unk.getD k 0)) unk.length = E at *
  constructor
  · intro h; have := h.xor hs; rwa [xright] at this
  · intro h; have := h.xor hs; rwa [xright, xcancel] at this

/-- a step back -/
theorem crcBit_back {v m : Nat} {b : Bool} (hm : m < 16) (h : crcBit v b % 2 ^ (m + 1) = 0) : (decide (32768 ≤ v)) = b ∧ v % 2 ^ m = 0 := by
  unfold crcBit at h
  have h2 : ∀ z : Nat, z % 2 ^ (m + 1) = 0 → z % 2 = 0 := fun z hz => by
    rw [Nat.pow_succ] at hz
    have := Nat.mod_mul_left_mod z (2 ^ m) 2
    rw [hz] at this; omega
  split at h
  · have h3 := h2 _ h
    rw [show (2 : Nat) = 2 ^ 1 from rfl, Nat.xor_mod_two_pow] at h3
    have : v * 2 % 65536 % 2 ^ 1 = 0 := by omega
    rw [this] at h3; exact absurd h3 (by decide)
  · rename_i hc
    refine ⟨by simpa using hc, ?_⟩
    have hd : 2 ^ (m + 1) ∣ 65536 := by
      have := Nat.pow_dvd_pow 2 (show m + 1 ≤ 16 by omega); simpa using this
    rw [Nat.mod_mod_of_dvd _ hd, Nat.pow_succ, Nat.mul_mod_mul_right] at h
    omega
theorem crcK_back {v m : Nat} {c : UInt8} {j : Nat} (hj : m + j ≤ 16) (h : crcK v c j % 2 ^ (m + j) = 0) : v % 2 ^ m = 0 ∧ ∀ i, i < j → decide (32768 ≤ crcK v c i) = c.toNat.testBit (7 - i) := by
  induction j with
  | zero => exact ⟨h, fun i hi => by omega⟩
  | succ j ih =>
    have h' : crcBit (crcK v c j) (c.toNat.testBit (7 - j)) % 2 ^ (m + j + 1) = 0 := h
    obtain ⟨h1, h2⟩ := crcBit_back (by omega) h'
    obtain ⟨h3, h4⟩ := ih (by omega) h2
    refine ⟨h3, fun i hi => ?_⟩
    by_cases e : i = j
    · rw [e]; exact h1
    · exact h4 i (by omega)
theorem crcK_none {c : UInt8} {j : Nat} (h : ∀ i, i < j → decide (32768 ≤ crcK 0 c i) = c.toNat.testBit (7 - i)) : crcK 0 c j = 0 := by
  induction j with
  | zero => rfl
  | succ j ih =>
    have h0 := ih fun i hi => h i (by omega)
    have h1 := h j (by omega)
    show crcBit (crcK 0 c j) _ = 0
    rw [← h1, h0]; decide
theorem byte_zero {c : UInt8} (h : ∀ i, i < 8 → decide (32768 ≤ crcK 0 c i) = c.toNat.testBit (7 - i)) : c = 0 := by
  apply UInt8.toNat_inj.1
  refine Nat.eq_of_testBit_eq fun j => ?_
  by_cases hj : j < 8
  · have h1 := h (7 - j) (by omega)
    rw [crcK_none fun i hi => h i (by omega), show 7 - (7 - j) = j by omega] at h1
    rw [← h1]; simp
  · have p : 2 ^ 8 ≤ 2 ^ j := Nat.pow_le_pow_right (by omega) (by omega)
    rw [Nat.testBit_lt_two_pow (Nat.lt_of_lt_of_le c.toNat_lt p)]; simp
/-- two bytes that leave 0 behind 0 are 0 -/
theorem two_zero {c d : UInt8} (h : crcK (crcK 0 c 8) d 8 = 0) : c = 0 ∧ d = 0 := by
  obtain ⟨h1, h2⟩ := crcK_back (m := 8) (j := 8) (by omega) (by rw [h])
  obtain ⟨_, h3⟩ := crcK_back (m := 0) (j := 8) (by omega) h1
  have hc := byte_zero h3
  refine ⟨hc, byte_zero ?_⟩
  rw [crcK_none h3] at h2; exact h2
theorem one_zero {c : UInt8} (h : crcK 0 c 8 = 0) : c = 0 := by
  obtain ⟨_, h3⟩ := crcK_back (v := 0) (c := c) (m := 0) (j := 8) (by omega) (by rw [h])
  exact byte_zero h3
theorem crcBit_inj {v w : Nat} {b : Bool} (hv : v < 65536) (hw : w < 65536) (h : crcBit v b = crcBit w b) : v = w := by
  have hx : crcBit (v ^^^ w) false = 0 := by
    have := crcBit_xor v w b b hv hw
    rw [h, Nat.xor_self, Bool.xor_self] at this; exact this
  have hlt : v ^^^ w < 65536 := Nat.xor_lt_two_pow (n := 16) hv hw
  have h1 := crcBit_back (m := 15) (by omega) (by rw [hx])
  have h0 : v ^^^ w = 0 := by
    have h2 := h1.1; simp at h2; have h3 := h1.2; omega
  have := xcancel v w
  rw [h0, Nat.zero_xor] at this; exact this.symm
theorem crcK_inj {v w : Nat} {c : UInt8} {j : Nat} (hv : v < 65536) (hw : w < 65536) (h : crcK v c j = crcK w c j) : v = w := by
  induction j with
  | zero => exact h
  | succ j ih => exact ih (crcBit_inj (crcK_lt _ _ _ hv) (crcK_lt _ _ _ hw) h)
theorem crcL_inj {l : List UInt8} {v w : Nat} (hv : v < 65536) (hw : w < 65536) (h : crcL l v = crcL l w) : v = w := by
  induction l generalizing v w with
  | nil => exact h
  | cons c l ih => exact crcK_inj hv hw (ih (crcK_lt _ _ _ hv) (crcK_lt _ _ _ hw) h)
/-- bytes that differ in two neighbouring places at most and have one check value are the same -/
theorem two_same {p s : List UInt8} {a b c d : UInt8} {v : Nat} (hv : v < 65536) (h : crcL (p ++ a :: b :: s) v = crcL (p ++ c :: d :: s) v) : a = c ∧ b = d := by
  simp only [crcL, List.foldl_append, List.foldl_cons] at h
  have hp : p.foldl (fun v c => crcK v c 8) v < 65536 := crcL_lt p v hv
  generalize p.foldl (fun v c => crcK v c 8) v = q at *
  have h1 := crcL_inj (l := s) (crcK_lt _ _ _ (crcK_lt _ _ _ hp)) (crcK_lt _ _ _ (crcK_lt _ _ _ hp)) h
  have h2 : crcK (crcK 0 (a ^^^ c) 8) (b ^^^ d) 8 = 0 := by
    have e1 := crcK_xor q q a c 8 hp hp
    rw [Nat.xor_self] at e1
    rw [e1, crcK_xor _ _ b d 8 (crcK_lt _ _ _ hp) (crcK_lt _ _ _ hp), h1, Nat.xor_self]
  obtain ⟨h3, h4⟩ := two_zero h2
  have cancel : ∀ {x y : UInt8}, x ^^^ y = 0 → x = y := fun {x y} e => by
    have : x ^^^ y ^^^ y = x := by rw [UInt8.xor_assoc, UInt8.xor_self, UInt8.xor_zero]
    rw [e, UInt8.zero_xor] at this; exact this.symm
  exact ⟨cancel h3, cancel h4⟩
theorem one_same {p s : List UInt8} {a c : UInt8} {v : Nat} (hv : v < 65536) (h : crcL (p ++ a :: s) v = crcL (p ++ c :: s) v) : a = c := by
  simp only [crcL, List.foldl_append, List.foldl_cons] at h
  have hp : p.foldl (fun v c => crcK v c 8) v < 65536 := crcL_lt p v hv
  generalize p.foldl (fun v c => crcK v c 8) v = q at *
  have h1 := crcL_inj (l := s) (crcK_lt _ _ _ hp) (crcK_lt _ _ _ hp) h
  have h2 : crcK 0 (a ^^^ c) 8 = 0 := by
    have e1 := crcK_xor q q a c 8 hp hp
    rw [Nat.xor_self] at e1
    rw [e1, h1, Nat.xor_self]
  have h3 := one_zero h2
  have : a ^^^ c ^^^ c = a := by rw [UInt8.xor_assoc, UInt8.xor_self, UInt8.xor_zero]
  rw [h3, UInt8.zero_xor] at this; exact this.symm
end Go.Proofs.YtfcdienphillnaaGreat
namespace Go.Proofs.YtfcdienphillnaaGreat
set_option linter.unusedVariables false
set_option linter.unusedSimpArgs false
open Go.RowKit
/-- a slice, at whatever place, that reads as the numbers l -/
def ReadN (w : World) (v : Value) (l : List Nat) : Prop := ∃ A c, v = .slice A l.length c ∧ (l = [] ∨ ∃ g o, A = some ⟨g, o, none⟩ ∧ g < w.heap.size ∧ ∀ k x : Nat, l[k]? = some x → w.cell? ⟨g, o + k, none⟩ = some (.int .i64 (x : Int)))
theorem min_nat (a b : Nat) : min (a : Int) (b : Int) = ((min a b : Nat) : Int) := by omega
def stepM (y b : Nat) : Nat := min y (y ^^^ b)
theorem redM_eq (base : List Nat) (y : Nat) : redM base y = base.foldl stepM y := rfl
theorem fm_next {l : List Nat} {j b y X : Nat} (hb : l[j]? = some b) (H : Hid (X = (l.drop j).foldl stepM y)) : Hid (X = (l.drop (j + 1)).foldl stepM (stepM y b)) := by
  obtain ⟨hk, rfl⟩ := List.getElem?_eq_some_iff.1 hb
  exact Lib.hid (by rw [H.out, List.drop_eq_getElem_cons hk, List.foldl_cons])
theorem fm_end {l : List Nat} {j y X : Nat} (hk : l.length ≤ j) (H : Hid (X = (l.drop j).foldl stepM y)) : X = y := by
  rw [H.out, List.drop_of_length_le hk]; rfl
theorem ba_next {l base X : List Nat} {k y : Nat} (hy : l[k]? = some y) (H : Hid (X = (l.drop k).foldl addM base)) : Hid (X = (l.drop (k + 1)).foldl addM (addM base y)) := by
  obtain ⟨hk, rfl⟩ := List.getElem?_eq_some_iff.1 hy
  exact Lib.hid (by rw [H.out, List.drop_eq_getElem_cons hk, List.foldl_cons])
theorem ba_end {l base X : List Nat} {k : Nat} (hk : l.length ≤ k) (H : Hid (X = (l.drop k).foldl addM base)) : X = base := by
  rw [H.out, List.drop_of_length_le hk]; rfl
theorem stepM_lt {y b : Nat} (hy : y < 65536) : stepM y b < 65536 := Nat.lt_of_le_of_lt (Nat.min_le_left _ _) hy
end Go.Proofs.YtfcdienphillnaaGreat
