/- l23Size and l23Left of the reference: the walks; the size by both sides. -/
import Derived.Test.YtkdadaocbfbndaaLeftI
import Derived.Test.YtkdadaocbfbndaaParS
namespace Go.Proofs.Ytkdadaocbfbndaa
set_option linter.unusedVariables false
open Go.RowKit
def sz1 : Nat → List ByteArray → Option Nat
  | c, [] => some c
  | c, s :: r => if c = 0 then sz1 s.size r else if (!s.toList.isEmpty && decide (s.size ≠ c)) = true then none else sz1 c r
def sz2 (L : List Int) : Nat → Nat → List ByteArray → Option Nat
  | c, _, [] => some c
  | c, k, b :: r => if hasB L k = true then sz2 L c (k + 1) r else if b.size = (if c = 0 then b.size else c) ∧ (if c = 0 then b.size else c) ≠ 0 then sz2 L (if c = 0 then b.size else c) (k + 1) r else none
def szS (bl : List ByteArray) (L : List Int) (mo : List ByteArray) : Nat := match sz1 0 mo with
  | none => 0
  | some c => match sz2 L c 0 bl with
    | none => 0
    | some d => if 64 < d ∨ 128 < bl.length ∨ bl.length = 0 then 0 else d
theorem emp_iff {s : ByteArray} : s.toList.isEmpty = true ↔ s.size = 0 := by
  constructor
  · intro h
    by_cases h0 : s.size = 0
    · exact h0
    · rw [emp_no h0] at h; cases h
  · exact emp_yes
/-- a number that all of these strings have as their size -/
def allS (u : Nat) (l : List ByteArray) : Prop := ∀ s ∈ l, s.size = u
theorem sz1_some {c v : Nat} {mo : List ByteArray} (h : sz1 c mo = some v) : allS v (neF mo) ∧ (c ≠ 0 → v = c) ∧ (c = 0 → neF mo = [] → v = 0) ∧ (neF mo ≠ [] → v ≠ 0) := by
  induction mo generalizing c with
  | nil =>
    obtain rfl : c = v := by simpa [sz1] using h
    exact ⟨fun s hs => by simp [neF] at hs, fun _ => rfl, fun h _ => h, fun h => by simp [neF] at h⟩
  | cons s r ih =>
    unfold sz1 at h
    rw [ne_c]
    by_cases hc : c = 0
    · rw [if_pos hc] at h
      obtain ⟨h1, h2, h3, h4⟩ := ih h
      by_cases hs : s.size = 0
      · rw [if_pos (emp_yes hs)]
        exact ⟨h1, fun h' => absurd hc h', fun _ => h3 hs, h4⟩
      · rw [if_neg (by rw [emp_no hs]; decide)]
        have hv := h2 hs
        refine ⟨fun t ht => ?_, fun h' => absurd hc h', fun _ h' => by simp at h', fun _ => by omega⟩
        cases List.mem_cons.1 ht with
        | inl h' => subst h'; exact hv.symm
        | inr h' => exact h1 t h'
    · rw [if_neg hc] at h
      by_cases hs : s.size = 0
      · rw [if_neg (by rw [emp_yes hs]; simp)] at h
        rw [if_pos (emp_yes hs)]
        obtain ⟨h1, h2, h3, h4⟩ := ih h
        exact ⟨h1, fun _ => h2 hc, fun h' => absurd h' hc, h4⟩
      · by_cases hsc : s.size = c
        · rw [if_neg (by simp [hsc])] at h
          rw [if_neg (by rw [emp_no hs]; decide)]
          obtain ⟨h1, h2, h3, h4⟩ := ih h
          have hv := h2 hc
          refine ⟨fun t ht => ?_, fun _ => hv, fun h' => absurd h' hc, fun _ => by omega⟩
          cases List.mem_cons.1 ht with
          | inl h' => subst h'; omega
          | inr h' => exact h1 t h'
        · rw [if_pos (by rw [emp_no hs]; simp [hsc])] at h
          cases h
theorem sz1_none {c u : Nat} {mo : List ByteArray} (hc : c ≠ 0 → u = c) (ha : allS u (neF mo)) (h : sz1 c mo = none) : False := by
  induction mo generalizing c with
  | nil => simp [sz1] at h
  | cons s r ih =>
    unfold sz1 at h
    rw [ne_c] at ha
    by_cases h0 : c = 0
    · rw [if_pos h0] at h
      by_cases hs : s.size = 0
      · rw [if_pos (emp_yes hs)] at ha
        exact ih (fun h' => absurd hs h') ha h
      · rw [if_neg (by rw [emp_no hs]; decide)] at ha
        exact ih (fun _ => (ha s List.mem_cons_self).symm) (fun t ht => ha t (List.mem_cons_of_mem _ ht)) h
    · rw [if_neg h0] at h
      by_cases hs : s.size = 0
      · rw [if_neg (by rw [emp_yes hs]; simp)] at h
        rw [if_pos (emp_yes hs)] at ha
        exact ih hc ha h
      · rw [if_neg (by rw [emp_no hs]; decide)] at ha
        have h1 := ha s List.mem_cons_self
        have h2 := hc h0
        rw [if_neg (by simp; intro _; omega)] at h
        exact ih hc (fun t ht => ha t (List.mem_cons_of_mem _ ht)) h
theorem sz2_some {L : List Int} {c k v : Nat} {l : List ByteArray} (h : sz2 L c k l = some v) : allS v (knF L k l) ∧ (c ≠ 0 → v = c) ∧ (c = 0 → knF L k l = [] → v = 0) ∧ (knF L k l ≠ [] → v ≠ 0) := by
  induction l generalizing c k with
  | nil =>
    obtain rfl : c = v := by simpa [sz2] using h
    exact ⟨fun s hs => by simp [knF] at hs, fun _ => rfl, fun h _ => h, fun h => by simp [knF] at h⟩
  | cons b r ih =>
    unfold sz2 at h
    unfold knF
    by_cases hb : hasB L k = true
    · rw [if_pos hb] at h ⊢
      exact ih h
    · rw [if_neg hb] at h ⊢
      by_cases hc : b.size = (if c = 0 then b.size else c) ∧ (if c = 0 then b.size else c) ≠ 0
      · rw [if_pos hc] at h
        obtain ⟨h1, h2, h3, h4⟩ := ih h
        have hv := h2 hc.2
        refine ⟨fun t ht => ?_, fun h' => by rw [hv, if_neg h'], fun _ h' => by simp at h', fun _ => by rw [hv]; exact hc.2⟩
        cases List.mem_cons.1 ht with
        | inl h' => subst h'; exact hc.1.trans hv.symm
        | inr h' => exact h1 t h'
      · rw [if_neg hc] at h; cases h
theorem sz2_none {L : List Int} {c k u : Nat} {l : List ByteArray} (hu : u ≠ 0) (hc : c ≠ 0 → u = c) (ha : allS u (knF L k l)) (h : sz2 L c k l = none) : False := by
  induction l generalizing c k with
  | nil => simp [sz2] at h
  | cons b r ih =>
    unfold sz2 at h
    unfold knF at ha
    by_cases hb : hasB L k = true
    · rw [if_pos hb] at h ha
      exact ih hc ha h
    · rw [if_neg hb] at h ha
      have h1 := ha b List.mem_cons_self
      have h3 : (if c = 0 then b.size else c) = u := by
        split
        · exact h1
        · exact (hc (by assumption)).symm
      rw [h3, if_pos ⟨h1, hu⟩] at h
      exact ih (fun _ => rfl) (fun t ht => ha t (List.mem_cons_of_mem _ ht)) h
theorem szK_pos {n v : Nat} {K : List ByteArray} (hv : v ≠ 0) : szK n K = v ↔ K ≠ [] ∧ allS v K ∧ v ≤ 64 ∧ n ≤ 128 := by
  cases K with
  | nil => exact ⟨fun h => absurd (show 0 = v from h).symm hv, fun h => absurd rfl h.1⟩
  | cons a r =>
    have hu : szK n (a :: r) = if (decide (n ≤ 128) && inB a.size 1 64 && sizesAre a.size (a :: r)) = true then a.size else 0 := rfl
    rw [hu]
    constructor
    · intro h
      by_cases hc : (decide (n ≤ 128) && inB a.size 1 64 && sizesAre a.size (a :: r)) = true
      · rw [if_pos hc] at h
        rw [Bool.and_eq_true, Bool.and_eq_true] at hc
        have h1 := of_decide_eq_true hc.1.1
        have h2 := inB_yes hc.1.2
        have h3 := List.all_eq_true.1 hc.2
        exact ⟨by simp, fun s hs => (of_decide_eq_true (h3 s hs)).trans h, by omega, h1⟩
      · rw [if_neg hc] at h; exact absurd h.symm hv
    · rintro ⟨_, h2, h3, h4⟩
      have ha := h2 a List.mem_cons_self
      rw [if_pos]
      · exact ha
      · rw [Bool.and_eq_true, Bool.and_eq_true]
        exact ⟨⟨decide_eq_true h4, inB_t (by omega)⟩, List.all_eq_true.2 fun s hs => decide_eq_true ((h2 s hs).trans ha.symm)⟩
theorem szS_K (bl : List ByteArray) (L : List Int) (mo : List ByteArray) : szS bl L mo = if bl.length = 0 then 0 else szK bl.length (ktF bl L mo) := by
  by_cases h0 : bl.length = 0
  · rw [if_pos h0]
    unfold szS
    split
    · rfl
    · split
      · rfl
      · rw [if_pos (by omega)]
  · rw [if_neg h0]
    by_cases hk : szK bl.length (ktF bl L mo) = 0
    · rw [hk]
      -- the reference's cannot be other than 0
      unfold szS
      split
      · rfl
      · rename_i c h1
        split
        · rfl
        · rename_i d h2
          by_cases hd : 64 < d ∨ 128 < bl.length ∨ bl.length = 0
          · rw [if_pos hd]
          · rw [if_neg hd]
            by_cases hd0 : d = 0
            · exact hd0
            · exfalso
              obtain ⟨a1, a2, a3, a4⟩ := sz1_some h1
              obtain ⟨b1, b2, b3, b4⟩ := sz2_some h2
              have hK : szK bl.length (ktF bl L mo) = d := (szK_pos hd0).2 ⟨by
                intro he
                obtain ⟨e1, e2⟩ := List.append_eq_nil_iff.1 he
                have hc0 := a3 rfl e2
                exact hd0 (b3 hc0 e1), fun s hs => by
                cases List.mem_append.1 hs with
                | inl h => exact b1 s h
                | inr h =>
                  have hc0 : c ≠ 0 := a4 (List.ne_nil_of_mem h)
                  rw [b2 hc0]; exact a1 s h, by omega, by omega⟩
              exact hd0 (hK.symm.trans hk)
    · generalize hv : szK bl.length (ktF bl L mo) = v at *
      obtain ⟨h1, h2, h3, h4⟩ := (szK_pos hk).1 hv
      have hkn : allS v (knF L 0 bl) := fun s hs => h2 s (List.mem_append_left _ hs)
      have hmo : allS v (neF mo) := fun s hs => h2 s (List.mem_append_right _ hs)
      unfold szS
      split
      · rename_i e1; exact (sz1_none (u := v) (fun h => absurd rfl h) hmo e1).elim
      · rename_i c e1
        obtain ⟨a1, a2, a3, a4⟩ := sz1_some e1
        have hcv : c ≠ 0 → v = c := fun hc => by
          by_cases hm : neF mo = []
          · exact absurd (a3 rfl hm) hc
          · obtain ⟨s, hs⟩ := List.exists_mem_of_ne_nil _ hm
            exact (hmo s hs).symm.trans (a1 s hs)
        split
        · rename_i e2; exact (sz2_none hk hcv hkn e2).elim
        · rename_i d e2
          obtain ⟨b1, b2, b3, b4⟩ := sz2_some e2
          have hd : d = v := by
            by_cases hc : c = 0
            · by_cases hkk : knF L 0 bl = []
              · have hm : neF mo ≠ [] := fun e => h1 (List.append_eq_nil_iff.2 ⟨hkk, e⟩)
                exact absurd hc (a4 hm)
              · obtain ⟨s, hs⟩ := List.exists_mem_of_ne_nil _ hkk
                exact (b1 s hs).symm.trans (hkn s hs)
            · exact (b2 hc).trans (hcv hc).symm
          rw [hd, if_neg (by omega)]
end Go.Proofs.Ytkdadaocbfbndaa
