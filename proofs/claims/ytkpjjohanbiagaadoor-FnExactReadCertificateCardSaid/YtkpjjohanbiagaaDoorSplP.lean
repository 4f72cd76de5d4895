/- Texts split at a byte, lines, and numbers in words: plain laws. -/
import Derived.Test.YtkpjjohanbiagaaDoorTxtP
import Derived.Lib.SplitLaws
import Derived.Lib.ParseIntB
import Derived.Lib.AtoiAllCases
namespace Go.Proofs.YtkpjjohanbiagaaDoor
set_option linter.unusedVariables false
set_option linter.unusedSimpArgs false
open Go.RowKit
/-- pieces between the bytes c; acc stands ahead of the first one -/
def splitF (c : UInt8) (acc : List UInt8) : List UInt8 → List (List UInt8)
  | [] => [acc]
  | b :: r => if b = c then acc :: splitF c [] r else splitF c (acc ++ [b]) r
theorem splitF_ne (c : UInt8) (l acc : List UInt8) : splitF c acc l ≠ [] := by
  induction l generalizing acc with
  | nil => simp [splitF]
  | cons b r ih =>
    unfold splitF
    split
    · simp
    · exact ih _
theorem splitF_no {c : UInt8} {p : List UInt8} (h : c ∉ p) (acc : List UInt8) : splitF c acc p = [acc ++ p] := by
  induction p generalizing acc with
  | nil => simp [splitF]
  | cons b r ih =>
    have hb : b ≠ c := fun e => h (by simp [e])
    rw [splitF, if_neg hb, ih (fun hm => h (by simp [hm]))]
    simp
theorem splitF_hit {c : UInt8} {p : List UInt8} (h : c ∉ p) (r acc : List UInt8) : splitF c acc (p ++ c :: r) = (acc ++ p) :: splitF c [] r := by
  induction p generalizing acc with
  | nil => simp [splitF]
  | cons b q ih =>
    have hb : b ≠ c := fun e => h (by simp [e])
    rw [List.cons_append, splitF, if_neg hb, ih (fun hm => h (by simp [hm]))]
    simp
/-- pieces with the byte c between them -/
def catF (c : UInt8) : List (List UInt8) → List UInt8
  | [] => []
  | [a] => a
  | a :: b :: t => a ++ c :: catF c (b :: t)
theorem catF_cons (c : UInt8) (a : List UInt8) {t : List (List UInt8)} (h : t ≠ []) : catF c (a :: t) = a ++ c :: catF c t := by
  cases t with
  | nil => exact absurd rfl h
  | cons b t => rfl
theorem cat_split (c : UInt8) (l acc : List UInt8) : catF c (splitF c acc l) = acc ++ l := by
  induction l generalizing acc with
  | nil => simp [splitF, catF]
  | cons b r ih =>
    unfold splitF
    split
    · rename_i hb
      rw [catF_cons c acc (splitF_ne c r []), ih, hb]; simp
    · rw [ih]; simp
theorem cat_lines (c : UInt8) (P : List (List UInt8)) (h : P ≠ []) : catF c P = (P.dropLast.map (fun p => p ++ [c])).flatten ++ P.getLast h := by
  induction P with
  | nil => exact absurd rfl h
  | cons a t ih =>
    cases t with
    | nil => simp [catF]
    | cons b t =>
      rw [catF_cons c a (by simp), ih (by simp)]
      simp [List.dropLast]
theorem split_mem {c : UInt8} (l acc : List UInt8) (h : c ∉ acc) : ∀ p ∈ splitF c acc l, c ∉ p := by
  induction l generalizing acc with
  | nil => intro p hp; simp [splitF] at hp; rw [hp]; exact h
  | cons b r ih =>
    unfold splitF
    split
    · intro p hp
      rcases List.mem_cons.1 hp with rfl | hp
      · exact h
      · exact ih [] (by simp) p hp
    · rename_i hb
      exact ih _ (by simp [h, Ne.symm hb])
/-- the library's way of looking for one byte -/
theorem index_cons (b c : UInt8) (l : List UInt8) : Lib.index (b :: l) [c] = if b = c then 0 else if Lib.index l [c] == -1 then -1 else Lib.index l [c] + 1 := by
  by_cases h : b = c
  · subst h; rw [if_pos rfl, Lib.index]; simp [List.isPrefixOf]
  · rw [if_neg h, Lib.index]
    have hp : ([c] : List UInt8).isPrefixOf (b :: l) = false := by simp [List.isPrefixOf, Ne.symm h]
    rw [hp]; simp
theorem index_nil (c : UInt8) : Lib.index [] [c] = -1 := by simp [Lib.index]
theorem index_at {c : UInt8} {p : List UInt8} (h : c ∉ p) (r : List UInt8) : Lib.index (p ++ c :: r) [c] = p.length := by
  induction p with
  | nil => rw [List.nil_append, index_cons, if_pos rfl]; rfl
  | cons b q ih =>
    have hb : b ≠ c := fun e => h (by simp [e])
    rw [List.cons_append, index_cons, if_neg hb, ih (fun hm => h (by simp [hm]))]
    have : ((q.length : Int) == -1) = false := by rw [beq_eq_false_iff_ne]; omega
    rw [this]; simp
theorem index_no {c : UInt8} {p : List UInt8} (h : c ∉ p) : Lib.index p [c] = -1 := by
  induction p with
  | nil => exact index_nil c
  | cons b q ih =>
    have hb : b ≠ c := fun e => h (by simp [e])
    rw [index_cons, if_neg hb, ih (fun hm => h (by simp [hm]))]; rfl
/-- a text is either without c, or a piece, c and the rest -/
theorem byte_cases (c : UInt8) (s : List UInt8) : c ∉ s ∨ ∃ p r, c ∉ p ∧ s = p ++ c :: r := by
  induction s with
  | nil => exact .inl (by simp)
  | cons b s ih =>
    by_cases hb : b = c
    · exact .inr ⟨[], s, by simp, by rw [hb]; rfl⟩
    · rcases ih with h | ⟨p, r, h1, h2⟩
      · exact .inl (by simp [h, Ne.symm hb])
      · exact .inr ⟨b :: p, r, by simp [h1, Ne.symm hb], by rw [h2]; rfl⟩
theorem count_hit {c : UInt8} {p : List UInt8} (h : c ∉ p) (r : List UInt8) : (p ++ c :: r).count c = r.count c + 1 := by
  rw [List.count_append, List.count_eq_zero.2 h, List.count_cons_self, Nat.zero_add]
theorem lib_split (c : UInt8) (n : Nat) : ∀ s : List UInt8, s.length ≤ n → Lib.splitK [c] 0 (s.count c) s = splitF c [] s := by
  induction n with
  | zero =>
    intro s hs
    have : s = [] := List.eq_nil_of_length_eq_zero (by omega)
    subst this; rfl
  | succ n ih =>
    intro s hs
    rcases byte_cases c s with h | ⟨p, r, hp, rfl⟩
    · rw [List.count_eq_zero.2 h, splitF_no h]; rfl
    · rw [count_hit hp, splitF_hit hp, Lib.splitK, index_at hp]
      have : ((p.length : Int) == -1) = false := by rw [beq_eq_false_iff_ne]; omega
      rw [this, if_neg (by decide)]
      have hd : (p ++ c :: r).drop ((p.length : Int).toNat + ([c] : List UInt8).length) = r := by simp
      have ht : (p ++ c :: r).take ((p.length : Int).toNat + 0) = p := by simp
      rw [hd, ht, ih r (by simp at hs; omega)]; rfl
theorem words_of (s : ByteArray) (c : UInt8) : (Lib.splitB ⟨#[c]⟩ 0 (Lib.countB s ⟨#[c]⟩) s).map (·.data.toList) = splitF c [] s.data.toList := by
  rw [Lib.splitB_data]
  have h := Lib.count_one c s.data.toList
  have h2 : Lib.countB s ⟨#[c]⟩ = s.data.toList.count c := h
  rw [h2]
  exact lib_split c _ _ (Nat.le_refl _)
/-- lines, each with the byte that ends it -/
def linesF (acc : List UInt8) : List UInt8 → List (List UInt8)
  | [] => if acc = [] then [] else [acc]
  | b :: r => if b = 10 then (acc ++ [10]) :: linesF [] r else linesF (acc ++ [b]) r
theorem linesF_hit {p : List UInt8} (h : (10 : UInt8) ∉ p) (r acc : List UInt8) : linesF acc (p ++ 10 :: r) = (acc ++ p ++ [10]) :: linesF [] r := by
  induction p generalizing acc with
  | nil => simp [linesF]
  | cons b q ih =>
    have hb : b ≠ 10 := fun e => h (by simp [e])
    rw [List.cons_append, linesF, if_neg hb, ih (fun hm => h (by simp [hm]))]
    simp
theorem linesF_no {p : List UInt8} (h : (10 : UInt8) ∉ p) (acc : List UInt8) (h0 : acc ++ p ≠ []) : linesF acc p = [acc ++ p] := by
  induction p generalizing acc with
  | nil => rw [linesF, if_neg (by simpa using h0)]; simp
  | cons b q ih =>
    have hb : b ≠ 10 := fun e => h (by simp [e])
    rw [linesF, if_neg hb, ih (fun hm => h (by simp [hm])) _ (by simp)]
    simp
theorem lines_len (n : Nat) : ∀ s : List UInt8, s.length ≤ n → (linesF [] s).length ≤ s.length ∧ ∀ p ∈ linesF [] s, p.length ≤ s.length := by
  induction n with
  | zero =>
    intro s hs
    have : s = [] := List.eq_nil_of_length_eq_zero (by omega)
    subst this; simp [linesF]
  | succ n ih =>
    intro s hs
    rcases byte_cases 10 s with h | ⟨p, r, hp, rfl⟩
    · by_cases h0 : s = []
      · subst h0; simp [linesF]
      · rw [linesF_no h [] (by simpa using h0)]
        have : 0 < s.length := List.length_pos_iff.2 h0
        simp; omega
    · rw [linesF_hit hp]
      obtain ⟨h1, h2⟩ := ih r (by simp at hs; omega)
      refine ⟨by simp; omega, fun q hq => ?_⟩
      rcases List.mem_cons.1 hq with rfl | hq
      · simp
      · have := h2 q hq; simp; omega
/-- the number in decimal digits, read on from acc -/
def numF (acc : Nat) : List UInt8 → Option Nat
  | [] => some acc
  | b :: r => if 48 ≤ b.toNat ∧ b.toNat ≤ 57 then numF (10 * acc + (b.toNat - 48)) r else none
def numS (l : List UInt8) : Int := if l = [] ∨ 7 < l.length ∨ (l.head? = some 48 ∧ 1 < l.length) then -1 else match numF 0 l with
  | some n => n
  | none => -1
theorem numF_snoc (l : List UInt8) (d : UInt8) (acc : Nat) : numF acc (l ++ [d]) = (numF acc l).bind fun m => if 48 ≤ d.toNat ∧ d.toNat ≤ 57 then some (10 * m + (d.toNat - 48)) else none := by
  induction l generalizing acc with
  | nil => simp [numF]
  | cons b r ih =>
    rw [List.cons_append, numF, numF]
    split
    · exact ih _
    · rfl
theorem dig_toNat {u : Nat} (h : u < 10) : (UInt8.ofNat (48 + u)).toNat = 48 + u := by
  rw [UInt8.toNat_ofNat']; omega
theorem numF_dec (u : Nat) : numF 0 (Lib.decDigits u) = some u := by
  induction u using Nat.strongRecOn with
  | _ u ih =>
    by_cases h : u < 10
    · rw [Lib.decDigits, dif_pos h]
      simp [numF, dig_toNat h]; omega
    · rw [Lib.decDigits, dif_neg h, numF_snoc, ih (u / 10) (by omega), Option.bind_some, dig_toNat (by omega), if_pos (by omega)]
      congr 1; omega
theorem dec_len (k : Nat) : ∀ u, u < 10 ^ (k + 1) → (Lib.decDigits u).length ≤ k + 1 := by
  induction k with
  | zero => intro u hu; rw [Lib.decDigits, dif_pos (by omega)]; simp
  | succ k ih =>
    intro u hu
    by_cases h : u < 10
    · rw [Lib.decDigits, dif_pos h]; simp
    · rw [Lib.decDigits, dif_neg h, List.length_append]
      have := ih (u / 10) (by rw [Nat.pow_succ] at hu; omega)
      simp; omega
theorem dec_ne (u : Nat) : Lib.decDigits u ≠ [] := by
  rw [Lib.decDigits]; split <;> simp
theorem dec_mem (u : Nat) : ∀ b ∈ Lib.decDigits u, 48 ≤ b.toNat ∧ b.toNat ≤ 57 := by
  induction u using Nat.strongRecOn with
  | _ u ih =>
    intro b hb
    by_cases h : u < 10
    · rw [Lib.decDigits, dif_pos h] at hb
      obtain rfl : b = UInt8.ofNat (48 + u) := by simpa using hb
      rw [dig_toNat h]; omega
    · rw [Lib.decDigits, dif_neg h] at hb
      rcases List.mem_append.1 hb with hb | hb
      · exact ih (u / 10) (by omega) b hb
      · obtain rfl : b = UInt8.ofNat (48 + u % 10) := by simpa using hb
        rw [dig_toNat (by omega)]; omega
theorem dec_head {u : Nat} (h : 1 ≤ u) : (Lib.decDigits u).head? ≠ some 48 := by
  induction u using Nat.strongRecOn with
  | _ u ih =>
    by_cases h10 : u < 10
    · rw [Lib.decDigits, dif_pos h10]
      intro e
      have := congrArg UInt8.toNat (Option.some.inj e)
      rw [dig_toNat h10] at this
      have h2 : (48 : UInt8).toNat = 48 := rfl
      omega
    · rw [Lib.decDigits, dif_neg h10]
      have := ih (u / 10) (by omega) (by omega)
      have hn := dec_ne (u / 10)
      cases hd : Lib.decDigits (u / 10) with
      | nil => exact absurd hd hn
      | cons a t => rw [hd] at this; simpa using this
theorem itoa_nat (n : Nat) : Lib.itoa (n : Int) = Lib.decDigits n := by
  unfold Lib.itoa; rw [if_neg (by omega), Int.toNat_natCast]
theorem numS_dec {n : Nat} (h : n < 10000000) : numS (Lib.decDigits n) = n := by
  unfold numS
  have hl := dec_len 6 n h
  rw [if_neg, numF_dec]
  rintro (h1 | h1 | ⟨h1, h2⟩)
  · exact dec_ne n h1
  · omega
  · by_cases h0 : n = 0
    · subst h0; rw [Lib.decDigits, dif_pos (by omega)] at h2; simp at h2
    · exact dec_head (by omega) h1
/-- a number without superfluous zeros is written in one way -/
theorem dec_of (l : List UInt8) : ∀ n, l ≠ [] → numF 0 l = some n → (l.head? = some 48 → l.length = 1) → l = Lib.decDigits n ∧ (l.head? ≠ some 48 → 1 ≤ n) := by
  induction hk : l.length using Nat.strongRecOn generalizing l with
  | _ k ih =>
    intro n hne hn hz
    obtain ⟨l', d, rfl⟩ : ∃ l' d, l = l' ++ [d] := ⟨l.dropLast, l.getLast hne, (List.dropLast_concat_getLast hne).symm⟩
    rw [numF_snoc] at hn
    obtain ⟨m, hm, hn⟩ := Option.bind_eq_some_iff.1 hn
    by_cases hd : 48 ≤ d.toNat ∧ d.toNat ≤ 57
    · rw [if_pos hd] at hn
      have hn := Option.some.inj hn
      have hde : d = UInt8.ofNat (48 + (d.toNat - 48)) := UInt8.toNat_inj.1 (by rw [dig_toNat (by omega)]; omega)
      by_cases hl' : l' = []
      · subst hl'
        obtain rfl : m = 0 := by simpa [numF] using hm.symm
        refine ⟨?_, fun h => ?_⟩
        · rw [List.nil_append, Lib.decDigits, dif_pos (by omega), ← hn]
          congr 1; rw [hde]; congr 1; simp; omega
        · have : d.toNat ≠ 48 := fun e => h (by rw [List.nil_append]; show some d = some 48; rw [UInt8.toNat_inj.1 (show d.toNat = (48 : UInt8).toNat from e)])
          omega
      · have hh : (l' ++ [d]).head? = l'.head? := by cases l' with
          | nil => exact absurd rfl hl'
          | cons a t => rfl
        have hlen : (l' ++ [d]).length = l'.length + 1 := by simp
        have hpos : 0 < l'.length := List.length_pos_iff.2 hl'
        rw [hh] at hz ⊢
        have hz' : l'.head? ≠ some 48 := fun e => by have := hz e; omega
        obtain ⟨h1, h2⟩ := ih l'.length (by omega) l' rfl m hl' hm (fun e => absurd e hz')
        have hm1 := h2 hz'
        refine ⟨?_, fun _ => by omega⟩
        rw [Lib.decDigits, dif_neg (by omega), show n / 10 = m by omega, ← h1]
        congr 1
        rw [hde]; congr 2; simp; omega
    · rw [if_neg hd] at hn; cases hn
theorem numS_some {l : List UInt8} {n : Nat} (h : numS l = n) : l = Lib.decDigits n := by
  unfold numS at h
  by_cases hc : l = [] ∨ 7 < l.length ∨ (l.head? = some 48 ∧ 1 < l.length)
  · rw [if_pos hc] at h; omega
  · rw [if_neg hc] at h
    cases hn : numF 0 l with
    | none => rw [hn] at h; simp only [] at h; omega
    | some m =>
      rw [hn] at h
      obtain rfl : m = n := Int.ofNat_inj.1 h
      simp only [not_or, not_and, Nat.not_lt] at hc
      refine (dec_of l m hc.1 hn fun e => ?_).1
      have := hc.2.2 e
      have : 0 < l.length := List.length_pos_iff.2 hc.1
      omega
/-- what the library reads of a number -/
def rdD (l : List UInt8) : Option Int := match Lib.parseIntB 64 l with
  | .ok v => if Lib.itoa v = l then some v else none
  | _ => none
theorem parseU_snoc (M : Nat) (l : List UInt8) (d : UInt8) (acc m : Nat) (h : Lib.parseUintM M acc l = .ok m) (hd : 48 ≤ d.toNat ∧ d.toNat ≤ 57) (h1 : m < 1844674407370955162) (h2 : m * 10 + (d.toNat - 48) ≤ M) : Lib.parseUintM M acc (l ++ [d]) = .ok (m * 10 + (d.toNat - 48)) := by
  induction l generalizing acc with
  | nil =>
    simp only [Lib.parseUintM, Lib.NumEnd.ok.injEq] at h
    subst h
    rw [List.nil_append, Lib.parseUintM, if_pos hd, if_neg (by omega), if_neg (by omega)]; rfl
  | cons b r ih =>
    rw [Lib.parseUintM] at h
    rw [List.cons_append, Lib.parseUintM]
    split at h
    · rename_i hb
      rw [if_pos hb]
      split at h
      · cases h
      · rename_i h3
        rw [if_neg h3]
        split at h
        · cases h
        · rename_i h4
          rw [if_neg h4]
          exact ih _ h
    · cases h
theorem parseU_dec (u : Nat) (h : u < 1000000000000) : Lib.parseUintM (2 ^ 64 - 1) 0 (Lib.decDigits u) = .ok u := by
  induction u using Nat.strongRecOn with
  | _ u ih =>
    by_cases h10 : u < 10
    · rw [Lib.decDigits, dif_pos h10, Lib.parseUintM, dig_toNat h10, if_pos (by omega), if_neg (by omega), if_neg (by omega), Lib.parseUintM]
      congr 1; omega
    · rw [Lib.decDigits, dif_neg h10]
      have := parseU_snoc (2 ^ 64 - 1) (Lib.decDigits (u / 10)) (UInt8.ofNat (48 + u % 10)) 0 (u / 10) (ih (u / 10) (by omega) (by omega)) (by rw [dig_toNat (by omega)]; omega) (by omega) (by rw [dig_toNat (by omega)]; omega)
      rw [this, dig_toNat (by omega)]
      congr 1; omega
theorem rdD_dec {n : Nat} (h : n < 1000000000000) : rdD (Lib.decDigits n) = some (n : Int) := by
  have hp := parseU_dec n h
  have hne := dec_ne n
  have hm := dec_mem n
  have hi := itoa_nat n
  unfold rdD
  have hB : Lib.parseIntB 64 (Lib.decDigits n) = .ok (n : Int) := by
    unfold Lib.parseIntB
    cases hd : Lib.decDigits n with
    | nil => exact absurd hd hne
    | cons a t =>
      rw [hd] at hp hm
      have ha := hm a (by simp)
      have h1 : ¬ (a.toNat = 43 ∨ a.toNat = 45) := by omega
      have h2 : ¬ a.toNat = 45 := by omega
      have h3 : Lib.parseUintB 64 (a :: t) = .ok n := by unfold Lib.parseUintB; rw [if_neg (by simp)]; exact hp
      simp only [if_neg h1, h3]
      rw [if_neg (by omega), if_neg (by omega), if_neg h2]
  rw [hB]
  simp only [hi, if_true]
def numsD : List (List UInt8) → Option (List Int)
  | [] => some []
  | w :: r => match rdD w with
    | none => none
    | some x => (numsD r).map (fun l => x :: l)
theorem numsD_cons (w : List UInt8) (r : List (List UInt8)) : numsD (w :: r) = (rdD w).bind fun x => (numsD r).map fun l => x :: l := by
  rw [numsD]; cases rdD w <;> rfl
theorem trim_line (p : List UInt8) : Lib.trimSuffix (p ++ [10]) [10] = p := by
  unfold Lib.trimSuffix Lib.hasSuffix
  have : ([10] : List UInt8).isSuffixOf (p ++ [10]) = true := by simp [List.isSuffixOf_iff_suffix]
  rw [if_pos this]; simp
theorem cut_word {v : List UInt8} (h : (32 : UInt8) ∉ v) (r : List UInt8) : Lib.cut (v ++ 32 :: r) [32] = (v, r, true) := by
  unfold Lib.cut
  rw [index_at h, if_pos (by omega)]
  simp
end Go.Proofs.YtkpjjohanbiagaaDoor
