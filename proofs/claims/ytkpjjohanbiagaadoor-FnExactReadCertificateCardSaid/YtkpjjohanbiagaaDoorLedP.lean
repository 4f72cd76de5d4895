/- The text of a ledger: the plain law. -/
import Derived.Test.YtkpjjohanbiagaaDoorBrokenL
import Derived.Test.YtkpjjohanbiagaaDoorPowP
namespace Go.Proofs.YtkpjjohanbiagaaDoor
set_option linter.unusedVariables false
set_option linter.unusedSimpArgs false
open Go.RowKit
def entT (e : Ent) : List UInt8 := e.verb.data.toList ++ (32 :: (Lib.join [Lib.itoa e.before, Lib.itoa e.after, Lib.itoa e.chain] [32] ++ [10]))
def ledT (l : List Ent) : List UInt8 := (l.map entT).flatten
def ledS (l : List Ent) : ByteArray := if ledgerOk l then strB (ledT l) else .empty
theorem ledS_no {l : List Ent} (h : ledgerOk l = false) : ledS l = .empty := by unfold ledS; rw [h]; rfl
theorem ledS_yes {l : List Ent} (h : ledgerOk l = true) : ledS l = strB (ledT l) := by unfold ledS; rw [h]; rfl
theorem ledT_next {l : List Ent} {k : Nat} {e : Ent} {acc X : List UInt8} (he : l[k]? = some e) (H : Hid (X = acc ++ ledT (l.drop k))) : Hid (X = (acc ++ entT e) ++ ledT (l.drop (k + 1))) := by
  obtain ⟨hk, rfl⟩ := List.getElem?_eq_some_iff.1 he
  exact Lib.hid (by rw [H.out, List.drop_eq_getElem_cons hk, ledT, List.map_cons, List.flatten_cons, List.append_assoc]; rfl)
theorem ledT_end {l : List Ent} {k : Nat} {acc X : List UInt8} (hk : l.length ≤ k) (H : Hid (X = acc ++ ledT (l.drop k))) : X = acc := by
  rw [H.out, List.drop_of_length_le hk, ledT]; simp
theorem led_all {l : List Ent} : ∀ {i : Nat} {last prev : Int}, broken i last prev l < 0 → (∀ e ∈ l, ∃ j la pr, entOk j la pr e = true) ∧ (l ≠ [] → i + l.length ≤ 30) := by
  induction l with
  | nil => intro i last prev _; exact ⟨fun e he => (by cases he), fun h => absurd rfl h⟩
  | cons a r ih =>
    intro i last prev h
    rw [broken] at h
    by_cases ha : entOk i last prev a = true
    · rw [if_pos ha] at h
      obtain ⟨h1, h2⟩ := ih h
      have hi : i < 30 := by
        unfold entOk at ha
        simp only [Bool.and_eq_true, decide_eq_true_eq] at ha
        exact ha.1.1.1.1.1
      refine ⟨fun e he => ?_, fun _ => ?_⟩
      · rcases List.mem_cons.1 he with rfl | he
        · exact ⟨_, _, _, ha⟩
        · exact h1 e he
      · by_cases hr : r = []
        · subst hr; simp; omega
        · have := h2 hr; simp only [List.length_cons]; omega
    · rw [if_neg ha] at h; omega
theorem led_ent {l : List Ent} (h : ledgerOk l = true) {e : Ent} (he : e ∈ l) : e.verb.size ≤ 12 ∧ (0 ≤ e.before ∧ e.before ≤ 65535) ∧ (0 ≤ e.after ∧ e.after ≤ 65535) ∧ (0 ≤ e.chain ∧ e.chain ≤ 65535) := by
  unfold ledgerOk at h
  obtain ⟨j, la, pr, hk⟩ := (led_all (of_decide_eq_true h)).1 e he
  unfold entOk at hk
  simp only [Bool.and_eq_true, beq_iff_eq] at hk
  obtain ⟨⟨⟨⟨⟨_, h2⟩, h3⟩, h4⟩, h5⟩, _⟩ := hk
  have hv : e.verb.size ≤ 12 := by
    unfold verbOk at h2
    simp only [Bool.and_eq_true, decide_eq_true_eq] at h2
    have := h2.2
    rwa [data_len] at this
  refine ⟨hv, inB_yes h3, inB_yes h4, ?_⟩
  rw [h5]
  exact chainI_bd _ _ _ _
theorem led_len {l : List Ent} (h : ledgerOk l = true) : l.length ≤ 30 := by
  unfold ledgerOk at h
  have := (led_all (of_decide_eq_true h)).2
  by_cases hl : l = []
  · subst hl; simp
  · have := this hl; omega
theorem itoa_le {n : Int} (h : 0 ≤ n ∧ n ≤ 65535) : (Lib.itoa n).length ≤ 21 := Lib.itoa_length_le n (by omega) (by omega)
theorem join3 (a b c : List UInt8) : Lib.join [a, b, c] [32] = a ++ (32 :: (b ++ (32 :: c))) := by
  simp [Lib.join, List.intercalate]
theorem entT_le {e : Ent} (h : e.verb.size ≤ 12 ∧ (0 ≤ e.before ∧ e.before ≤ 65535) ∧ (0 ≤ e.after ∧ e.after ≤ 65535) ∧ (0 ≤ e.chain ∧ e.chain ≤ 65535)) : (entT e).length ≤ 80 := by
  have h1 := itoa_le h.2.1
  have h2 := itoa_le h.2.2.1
  have h3 := itoa_le h.2.2.2
  have h4 := data_len e.verb
  unfold entT
  rw [join3]
  simp only [List.length_append, List.length_cons, List.length_nil]
  omega
end Go.Proofs.YtkpjjohanbiagaaDoor
