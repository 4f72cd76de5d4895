/- Columns of dumps, and the sectors that a condition chooses, as lists. -/
import Derived.Test.YtignjjkldmninaaBest
namespace Go.Proofs.Ytignjjkldmninaa
set_option linter.unusedVariables false
open Go.RowKit
def secZ : Sec := ⟨.empty, 0⟩
def colF (k : Nat) (l : List Dsc) : List Sec := l.map fun d => d.secs.getD k secZ
def goodF (k : Nat) (l : List Dsc) : List ByteArray := stF 1 (colF k l)
def chF (P : List ByteArray → Bool) (l : List Dsc) : Nat → Nat → List Int
  | _, 0 => []
  | k, n + 1 => if P (goodF k l) = true then (k : Int) :: chF P l (k + 1) n else chF P l (k + 1) n
def chE (P : List ByteArray → Bool) (l : List Dsc) : List Int × Int := if dumpsOk l = true then (chF P l 0 (l.headD default).secs.length, 0) else ([], 1)
theorem col_len (k : Nat) (l : List Dsc) : (colF k l).length = l.length := by simp [colF]
theorem col_get {k j : Nat} {l : List Dsc} {d : Dsc} {s : Sec} (hd : l[j]? = some d) (hs : d.secs[k]? = some s) : (colF k l)[j]? = some s := by
  unfold colF
  rw [List.getElem?_map, hd]
  simp only [Option.map_some, List.getD_eq_getElem?_getD, hs, Option.getD_some]
theorem ch_len (P : List ByteArray → Bool) (l : List Dsc) (k n : Nat) : (chF P l k n).length ≤ n := by
  induction n generalizing k with
  | zero => exact Nat.le_refl _
  | succ n ih =>
    have := ih (k + 1)
    unfold chF
    split <;> simp <;> omega
theorem ch_yes {P : List ByteArray → Bool} {l : List Dsc} {k n : Nat} {acc X : List Int} (hk : k < n) (H : Hid (X = acc ++ chF P l k (n - k))) (hc : P (goodF k l) = true) : Hid (X = (acc ++ [(k : Int)]) ++ chF P l (k + 1) (n - (k + 1))) := by
  have e : n - k = (n - (k + 1)) + 1 := by omega
  exact Lib.hid (by rw [H.out, e, chF, if_pos hc]; simp)
theorem ch_no {P : List ByteArray → Bool} {l : List Dsc} {k n : Nat} {acc X : List Int} (hk : k < n) (H : Hid (X = acc ++ chF P l k (n - k))) (hc : P (goodF k l) = false) : Hid (X = acc ++ chF P l (k + 1) (n - (k + 1))) := by
  have e : n - k = (n - (k + 1)) + 1 := by omega
  exact Lib.hid (by rw [H.out, e, chF, if_neg (by rw [hc]; decide)])
theorem ch_end {P : List ByteArray → Bool} {l : List Dsc} {k n : Nat} {acc X : List Int} (hk : n ≤ k) (H : Hid (X = acc ++ chF P l k (n - k))) : X = acc := by
  rw [H.out, show n - k = 0 by omega, chF, List.append_nil]
theorem chE_len (P : List ByteArray → Bool) (l : List Dsc) (hb : ∀ d ∈ l, d.secs.length ≤ 1048576) : (chE P l).1.length ≤ 1048576 := by
  unfold chE
  split
  · refine Nat.le_trans (ch_len _ _ _ _) ?_
    cases l with
    | nil => simp [default, instInhabitedDsc]
    | cons z r => exact hb z List.mem_cons_self
  · simp
theorem du_mem {l : List Dsc} (h : dumpsOk l = true) {z d : Dsc} (hz : l[0]? = some z) (hd : d ∈ l) : discOk d = true ∧ sameG d z = true := by
  rw [du_at hz (du_len h), List.all_eq_true] at h
  have := h d hd
  rwa [Bool.and_eq_true] at this
theorem ok_secs {d : Dsc} (h : discOk d = true) : (d.secs.length : Int) = d.cyl * d.heads * d.per := by
  unfold discOk at h
  rw [Bool.and_eq_true, Bool.and_eq_true, beq_iff_eq] at h
  exact h.2.1
theorem ok_geo {d : Dsc} (h : discOk d = true) : geoB d.cyl d.heads d.per d.size = true := by
  unfold discOk at h
  rw [Bool.and_eq_true] at h
  exact h.1
theorem du_secs {l : List Dsc} (h : dumpsOk l = true) {z d : Dsc} (hz : l[0]? = some z) (hd : d ∈ l) : d.secs.length = z.secs.length := by
  obtain ⟨h1, h2⟩ := du_mem h hz hd
  obtain ⟨h3, _⟩ := du_mem h hz (List.mem_of_getElem? hz)
  have e1 := ok_secs h1
  have e2 := ok_secs h3
  unfold sameG at h2
  simp only [Bool.and_eq_true, beq_iff_eq] at h2
  rw [h2.1.1.1, h2.1.1.2, h2.1.2, ← e2] at e1
  exact Int.ofNat_inj.1 e1
theorem ok_le {d : Dsc} (h : discOk d = true) : d.secs.length ≤ 128 := by
  obtain ⟨h1, h2, h3, _⟩ := geo_parts (ok_geo h)
  have := (prod_bd h1 h2 h3).2
  have := ok_secs h
  omega
theorem good_le (k : Nat) (l : List Dsc) : (goodF k l).length ≤ l.length := by
  have := stF_len 1 (colF k l)
  rw [col_len] at this
  exact this
/-- how many strings are equal to one -/
def cntF (t : ByteArray) (l : List ByteArray) : Nat := (l.filter fun s => s.toList == t.toList).length
theorem cnt_le (t : ByteArray) (l : List ByteArray) : cntF t l ≤ l.length := List.length_filter_le _ _
theorem cnt_drop {t s : ByteArray} {l : List ByteArray} {k : Nat} (h : l[k]? = some s) : cntF t (l.drop k) = (if s.toList == t.toList then 1 else 0) + cntF t (l.drop (k + 1)) := by
  obtain ⟨hk, rfl⟩ := List.getElem?_eq_some_iff.1 h
  unfold cntF
  rw [List.drop_eq_getElem_cons hk, List.filter_cons]
  split <;> simp <;> omega
theorem cnt_all {t : ByteArray} {l : List ByteArray} : cntF t l = l.length ↔ l.any (fun s => s.toList != t.toList) = false := by
  unfold cntF
  rw [List.length_filter_eq_length_iff]
  constructor
  · intro h
    rw [← Bool.not_eq_true, List.any_eq_true]
    rintro ⟨s, hs, hn⟩
    have := h s hs
    simp [bne] at hn this
    exact hn this
  · intro h s hs
    rw [← Bool.not_eq_true, List.any_eq_true] at h
    by_cases hh : (s.toList == t.toList) = true
    · exact hh
    · exact absurd ⟨s, hs, by simp [bne] at hh ⊢; exact hh⟩ h
end Go.Proofs.Ytignjjkldmninaa
