/- Sectors that no source covers: the plain law. -/
import Derived.Test.YtjkfkjbakokjeaaCertS
import Derived.Test.YtjkfkjbakokjeaaVDiscS
namespace Go.Proofs.Ytjkfkjbakokjeaa
set_option linter.unusedVariables false
open Go.RowKit
/-- the kind of the first source of a sector, 0 if there is none -/
def kinN (x : Int) : List Src → Int
  | [] => 0
  | s :: r => if s.sector == x then s.kind else kinN x r
theorem kin_yes {x : Int} {l : List Src} {k : Nat} {s : Src} (hs : l[k]? = some s) (H : Hid (kinN x l = kinN x (l.drop k))) (h : (s.sector == x) = true) : kinN x l = s.kind := by
  obtain ⟨hk, rfl⟩ := List.getElem?_eq_some_iff.1 hs
  rw [H.out, List.drop_eq_getElem_cons hk, kinN, if_pos h]
theorem kin_no {x : Int} {l : List Src} {k : Nat} {s : Src} (hs : l[k]? = some s) (H : Hid (kinN x l = kinN x (l.drop k))) (h : (s.sector == x) = false) : Hid (kinN x l = kinN x (l.drop (k + 1))) := by
  obtain ⟨hk, rfl⟩ := List.getElem?_eq_some_iff.1 hs
  exact Lib.hid (by rw [H.out, List.drop_eq_getElem_cons hk, kinN, if_neg (by rw [h]; decide)])
theorem kin_end {x : Int} {l : List Src} {k : Nat} (hk : l.length ≤ k) (H : Hid (kinN x l = kinN x (l.drop k))) : kinN x l = 0 := by
  rw [H.out, List.drop_of_length_le hk]; rfl
def uncB (l : List Src) (s : Sec) (k : Nat) : Bool := s.state != 3 && kinN k l == 0
def uncN (l : List Src) : Nat → List Sec → List Int
  | _, [] => []
  | k, s :: r => if uncB l s k then (k : Int) :: uncN l (k + 1) r else uncN l (k + 1) r
def uncE (d : Dsc) (l : List Src) : List Int × Int := if discOk d && certOk l then (uncN l 0 d.secs, 0) else ([], 1)
theorem uncN_len (l : List Src) (k : Nat) (r : List Sec) : (uncN l k r).length ≤ r.length := by
  induction r generalizing k with
  | nil => exact Nat.le_refl _
  | cons s r ih =>
    have := ih (k + 1)
    unfold uncN
    split
    · simp only [List.length_cons]; omega
    · simp only [List.length_cons]; omega
theorem uncE_len (d : Dsc) (l : List Src) (h : d.secs.length ≤ 1048576) : (uncE d l).1.length ≤ 1048576 := by
  unfold uncE
  split
  · exact Nat.le_trans (uncN_len _ _ _) h
  · exact Nat.zero_le _
theorem unc_no1 {d : Dsc} {l : List Src} (h : discOk d = false) : uncE d l = ([], 1) := by unfold uncE; rw [h]; rfl
theorem unc_no2 {d : Dsc} {l : List Src} (h : certOk l = false) : uncE d l = ([], 1) := by unfold uncE; rw [h, Bool.and_false]; rfl
theorem unc_ok {d : Dsc} {l : List Src} (h : discOk d = true) (h2 : certOk l = true) : uncE d l = (uncN l 0 d.secs, 0) := by unfold uncE; rw [h, h2]; rfl
theorem un_yes {l : List Src} {ss : List Sec} {k : Nat} {s : Sec} {X acc : List Int} (hs : ss[k]? = some s) (H : Hid (X = acc ++ uncN l k (ss.drop k))) (h : uncB l s k = true) : Hid (X = (acc ++ [(k : Int)]) ++ uncN l (k + 1) (ss.drop (k + 1))) := by
  obtain ⟨hk, rfl⟩ := List.getElem?_eq_some_iff.1 hs
  exact Lib.hid (by rw [H.out, List.drop_eq_getElem_cons hk, uncN, if_pos h, List.append_assoc]; rfl)
theorem un_no {l : List Src} {ss : List Sec} {k : Nat} {s : Sec} {X acc : List Int} (hs : ss[k]? = some s) (H : Hid (X = acc ++ uncN l k (ss.drop k))) (h : uncB l s k = false) : Hid (X = acc ++ uncN l (k + 1) (ss.drop (k + 1))) := by
  obtain ⟨hk, rfl⟩ := List.getElem?_eq_some_iff.1 hs
  exact Lib.hid (by rw [H.out, List.drop_eq_getElem_cons hk, uncN, if_neg (by rw [h]; decide)])
theorem un_end {l : List Src} {ss : List Sec} {k : Nat} {X acc : List Int} (hk : ss.length ≤ k) (H : Hid (X = acc ++ uncN l k (ss.drop k))) : X = acc := by
  rw [H.out, List.drop_of_length_le hk, uncN, List.append_nil]
theorem ub1 {l : List Src} {s : Sec} {k : Nat} (h : s.state = 3) : uncB l s k = false := by unfold uncB; rw [h]; rfl
theorem ub2 {l : List Src} {s : Sec} {k : Nat} (h : (kinN k l == 0) = false) : uncB l s k = false := by unfold uncB; rw [h, Bool.and_false]
theorem ub3 {l : List Src} {s : Sec} {k : Nat} (h1 : ¬ s.state = 3) (h : (kinN k l == 0) = true) : uncB l s k = true := by unfold uncB; rw [h, Bool.and_true]; simpa using h1
theorem kinN_cert {l : List Src} (h : certOk l = true) (x : Int) : 0 ≤ kinN x l ∧ kinN x l ≤ 4 := by
  have hk : ∀ (last : Int) (r : List Src), certFrom last r = true → 0 ≤ kinN x r ∧ kinN x r ≤ 4 := by
    intro last r
    induction r generalizing last with
    | nil => intro _; exact ⟨Int.le_refl _, by show (0 : Int) ≤ 4; decide⟩
    | cons a r ih =>
      intro h
      rw [certFrom, Bool.and_eq_true] at h
      have := (srcOk_iff.1 h.1).1
      unfold kinN
      split
      · omega
      · exact ih _ h.2
  exact hk _ _ h
end Go.Proofs.Ytjkfkjbakokjeaa
