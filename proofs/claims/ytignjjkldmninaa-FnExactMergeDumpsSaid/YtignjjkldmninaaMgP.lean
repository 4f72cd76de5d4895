/- Merging sectors: plain laws. -/
import Derived.Test.YtignjjkldmninaaCols
import Derived.Test.YtignjjkldmninaaBuf
namespace Go.Proofs.Ytignjjkldmninaa
set_option linter.unusedVariables false
open Go.RowKit
theorem toL_eq (a b : ByteArray) : (a.toList == b.toList) = true ↔ a = b := by
  constructor
  · intro h
    have h2 : a.toList = b.toList := by simpa using h
    rw [ByteArray.toList_eq, ByteArray.toList_eq] at h2
    exact ByteArray.ext (Array.toList_inj.1 h2)
  · rintro rfl; simp
/-- the string that occurs most among the first k looked at, of several the first one -/
def mostK (l : List ByteArray) : Nat → ByteArray
  | 0 => l.getD 0 .empty
  | k + 1 => if cntF (mostK l k) l < cntF (l.getD k .empty) l then l.getD k .empty else mostK l k
def mostS (l : List ByteArray) : ByteArray := mostK l l.length
theorem mostK_one {l : List ByteArray} : mostK l 1 = mostK l 0 := by
  rw [mostK, mostK]; split <;> rfl
theorem mostK_yes {l : List ByteArray} {k : Nat} {s : ByteArray} (hs : l[k]? = some s) (h : cntF (mostK l k) l < cntF s l) : mostK l (k + 1) = s := by
  rw [mostK, List.getD_eq_getElem?_getD, hs, Option.getD_some, if_pos h]
theorem mostK_no {l : List ByteArray} {k : Nat} {s : ByteArray} (hs : l[k]? = some s) (h : ¬ cntF (mostK l k) l < cntF s l) : mostK l (k + 1) = mostK l k := by
  rw [mostK, List.getD_eq_getElem?_getD, hs, Option.getD_some, if_neg h]
theorem mostK_in {l : List ByteArray} (h : l ≠ []) : ∀ k, k ≤ l.length → mostK l k ∈ l
  | 0, _ => by
    cases l with
    | nil => exact absurd rfl h
    | cons a l => simp [mostK]
  | k + 1, hk => by
    have ih := mostK_in h k (by omega)
    unfold mostK
    split
    · rw [List.getD_eq_getElem?_getD, List.getElem?_eq_getElem (by omega)]; exact List.getElem_mem _
    · exact ih
theorem cnt_pos {t : ByteArray} {l : List ByteArray} (h : t ∈ l) : 1 ≤ cntF t l := by
  obtain ⟨k, hk, e⟩ := List.getElem_of_mem h
  have h1 := cnt_drop (t := t) (l := l) (k := k) (s := t) (by rw [List.getElem?_eq_getElem hk, e])
  have h2 : cntF t (l.drop k) ≤ cntF t l := by
    have : ∀ (k : Nat) (l : List ByteArray), cntF t (l.drop k) ≤ cntF t l := by
      intro k
      induction k with
      | zero => intro l; simp
      | succ k ih =>
        intro l
        cases l with
        | nil => simp
        | cons a l => rw [List.drop_succ_cons]; refine Nat.le_trans (ih l) ?_; have := cnt_drop (t := t) (l := a :: l) (k := 0) (s := a) rfl; simp only [List.drop_zero, List.drop_succ_cons] at this; omega
    exact this k l
  rw [if_pos (by simp)] at h1
  omega
/-- the byte that most have, of several the lowest, below b -/
def voteK (c : Nat → Nat) : Nat → Nat
  | 0 => 0
  | b + 1 => if c (voteK c b) < c b then b else voteK c b
theorem voteK_lt (c : Nat → Nat) : ∀ b, voteK c b ≤ b - 1
  | 0 => Nat.le_refl _
  | b + 1 => by
    have := voteK_lt c b
    unfold voteK; split <;> omega
/-- how many strings have byte b at place i -/
def cntB (l : List ByteArray) (i b : Nat) : Nat := l.countP fun s => s.data.toList.getD i 0 == UInt8.ofNat b
def cntBk (l : List ByteArray) (i k b : Nat) : Nat := cntB (l.take k) i b
def byteV (l : List ByteArray) (i : Nat) : Nat := voteK (cntB l i) 256
def voteV (l : List ByteArray) : List Nat := (List.range (l.getD 0 .empty).size).map (byteV l)
theorem byteV_lt (l : List ByteArray) (i : Nat) : byteV l i < 256 := by
  have := voteK_lt (cntB l i) 256; unfold byteV; omega
end Go.Proofs.Ytignjjkldmninaa
