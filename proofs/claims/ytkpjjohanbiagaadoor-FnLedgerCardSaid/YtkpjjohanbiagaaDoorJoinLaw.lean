/- Joined ledgers: the plain law of FnJoined. -/
import Derived.Test.YtkpjjohanbiagaaDoorJoin
namespace Go.Proofs.YtkpjjohanbiagaaDoor
set_option linter.unusedVariables false
set_option linter.unusedSimpArgs false
open Go.RowKit
/-- the chain, and the state, behind entries -/
def endC (last : Int) : List Ent → Int
  | [] => last
  | e :: r => endC e.chain r
def endA (prev : Int) : List Ent → Int
  | [] => prev
  | e :: r => endA e.after r
theorem broken_snoc {l : List Ent} {e : Ent} : ∀ {i : Nat} {last prev : Int}, broken i last prev l < 0 → entOk (i + l.length) (endC last l) (endA prev l) e = true → broken i last prev (l ++ [e]) < 0 := by
  induction l with
  | nil =>
    intro i last prev _ h
    have h' : entOk i last prev e = true := h
    show broken i last prev [e] < 0
    rw [broken, if_pos h', broken]; decide
  | cons a r ih =>
    intro i last prev hb h
    rw [List.cons_append, broken]
    rw [broken] at hb
    split at hb
    · rename_i hok
      rw [if_pos hok]
      refine ih hb ?_
      rw [List.length_cons, show i + (r.length + 1) = i + 1 + r.length by omega] at h
      exact h
    · omega
theorem endC_app (l m : List Ent) (p : Int) : endC p (l ++ m) = endC (endC p l) m := by
  induction l generalizing p with
  | nil => rfl
  | cons a r ih => exact ih _
theorem endA_app (l m : List Ent) (p : Int) : endA p (l ++ m) = endA (endA p l) m := by
  induction l generalizing p with
  | nil => rfl
  | cons a r ih => exact ih _
theorem endC_last (l : List Ent) : endC 0 l = lastC l := by
  rcases List.eq_nil_or_concat l with rfl | ⟨m, e, rfl⟩
  · rfl
  · rw [List.concat_eq_append, endC_app, lastC_app]; rfl
theorem lastA_app (m : List Ent) (e : Ent) : lastA (m ++ [e]) = e.after := by
  unfold lastA; rw [List.getD_eq_getElem?_getD]; simp
theorem endA_last {l : List Ent} (h : l ≠ []) (p : Int) : endA p l = lastA l := by
  rcases List.eq_nil_or_concat l with rfl | ⟨m, e, rfl⟩
  · exact absurd rfl h
  · rw [List.concat_eq_append, endA_app, lastA_app]; rfl
/-- entries that lead from one state to the next -/
def SeqA : Option Int → List Ent → Prop
  | _, [] => True
  | p, e :: r => verbOk e.verb.data.toList = true ∧ inB e.before 0 65535 = true ∧ inB e.after 0 65535 = true ∧ (∀ q, p = some q → e.before = q) ∧ SeqA (some e.after) r
theorem seq_of {l : List Ent} : ∀ {i : Nat} {last prev : Int}, broken i last prev l < 0 → SeqA (if i = 0 then none else some prev) l := by
  induction l with
  | nil => intro _ _ _ _; trivial
  | cons a r ih =>
    intro i last prev hb
    rw [broken] at hb
    split at hb
    · rename_i hok
      have h2 := ih hb
      rw [if_neg (by omega)] at h2
      simp only [entOk, Bool.and_eq_true, Bool.or_eq_true, beq_iff_eq, decide_eq_true_eq] at hok
      obtain ⟨⟨⟨⟨⟨_, h3⟩, h4⟩, h5⟩, _⟩, h6⟩ := hok
      refine ⟨h3, h4, h5, fun q hq => ?_, h2⟩
      by_cases h0 : i = 0
      · rw [if_pos h0] at hq; cases hq
      · rw [if_neg h0] at hq; injection hq with hq; rw [← hq]; exact h6.resolve_left h0
    · omega
theorem seq_ok {l : List Ent} (h : ledgerOk l = true) : SeqA none l := seq_of (i := 0) (last := 0) (prev := 0) (by simpa [ledgerOk] using h)
theorem seq_head {p : Option Int} {e : Ent} {r : List Ent} (h : SeqA none (e :: r)) (hp : ∀ q, p = some q → e.before = q) : SeqA p (e :: r) := ⟨h.1, h.2.1, h.2.2.1, hp, h.2.2.2.2⟩
theorem join_ok (y : List Ent) : ∀ (x : List Ent), ledgerOk x = true → SeqA (if x = [] then none else some (lastA x)) y → x.length + y.length ≤ 30 → ledgerOk (joinL x y) = true := by
  induction y with
  | nil => intro x h _ _; exact h
  | cons e r ih =>
    intro x h hs hl
    obtain ⟨h1, h2, h3, h4, h5⟩ := hs
    rw [List.length_cons] at hl
    show ledgerOk (joinL (x ++ [nextE x e.verb e.before e.after]) r) = true
    refine ih _ ?_ ?_ (by simp; omega)
    · have hb : broken 0 0 0 x < 0 := by simpa [ledgerOk] using h
      have : broken 0 0 0 (x ++ [nextE x e.verb e.before e.after]) < 0 := broken_snoc hb (by
        simp only [entOk, nextE, Bool.and_eq_true, Bool.or_eq_true, beq_iff_eq, decide_eq_true_eq]
        refine ⟨⟨⟨⟨⟨by omega, h1⟩, h2⟩, h3⟩, by rw [endC_last]⟩, ?_⟩
        by_cases h0 : x = []
        · left; simp [h0]
        · right; rw [if_neg h0] at h4; rw [endA_last h0]; exact h4 _ rfl)
      simpa [ledgerOk] using this
    · rw [if_neg (by simp), lastA_app]; exact h5
theorem joinL_left (y : List Ent) : ∀ (x : List Ent) (k : Nat), k < x.length → (joinL x y)[k]? = x[k]? := by
  induction y with
  | nil => intro x k _; rfl
  | cons e r ih =>
    intro x k hk
    show (joinL (x ++ [nextE x e.verb e.before e.after]) r)[k]? = _
    rw [ih _ k (by simp; omega), List.getElem?_append_left hk]
theorem joinL_right (y : List Ent) : ∀ (x : List Ent) (k : Nat) (e : Ent), y[k]? = some e → ∃ c, (joinL x y)[x.length + k]? = some ⟨e.verb, e.before, e.after, c⟩ := by
  induction y with
  | nil => intro x k e h; simp at h
  | cons a r ih =>
    intro x k e h
    cases k with
    | zero =>
      simp at h; subst h
      have h1 := joinL_left r (x ++ [nextE x a.verb a.before a.after]) x.length (by simp)
      rw [List.getElem?_append_right (Nat.le_refl _), Nat.sub_self] at h1
      exact ⟨_, h1⟩
    | succ k =>
      obtain ⟨c, hc⟩ := ih (x ++ [nextE x a.verb a.before a.after]) k e (by simpa using h)
      refine ⟨c, ?_⟩
      rw [← hc]
      show (joinL (x ++ [nextE x a.verb a.before a.after]) r)[x.length + (k + 1)]? = _
      rw [List.length_append, List.length_singleton, show x.length + (k + 1) = x.length + 1 + k by omega]
theorem joinL_vb (m : Nat) (y : List Ent) : ∀ (x : List Ent), (∀ e ∈ x, e.verb.size ≤ m) → (∀ e ∈ y, e.verb.size ≤ m) → ∀ e ∈ joinL x y, e.verb.size ≤ m := by
  induction y with
  | nil => intro x h _; exact h
  | cons a r ih =>
    intro x h h2
    refine ih (x ++ [nextE x a.verb a.before a.after]) (fun e he => ?_) (fun e he => h2 e (by simp [he]))
    rcases List.mem_append.1 he with he | he
    · exact h e he
    · obtain rfl : e = nextE x a.verb a.before a.after := by simpa using he
      exact h2 a (by simp)
/-- what joining returns, when it does -/
theorem joined_law {x y : List Ent} (h : (joinE x y).2 = 0) : joinE x y = (joinL x y, 0) ∧ ledgerOk (joinL x y) = true ∧ x.length + y.length ≤ 30 := by
  unfold joinE at h ⊢
  by_cases h1 : (ledgerOk x && ledgerOk y) = false
  · rw [if_pos h1] at h; cases h
  · rw [if_neg h1] at h ⊢
    by_cases h2 : (x ≠ [] ∧ y ≠ []) ∧ (lastA x != (y.headD default).before) = true
    · rw [if_pos h2] at h; cases h
    · rw [if_neg h2] at h ⊢
      by_cases h3 : 30 < x.length + y.length
      · rw [if_pos h3] at h; cases h
      · rw [if_neg h3]
        rw [Bool.not_eq_false, Bool.and_eq_true] at h1
        refine ⟨rfl, join_ok y x h1.1 ?_ (by omega), by omega⟩
        cases y with
        | nil => trivial
        | cons e r =>
          refine seq_head (seq_ok h1.2) (fun q hq => ?_)
          by_cases h0 : x = []
          · rw [if_pos h0] at hq; cases hq
          · rw [if_neg h0] at hq
            injection hq with hq
            have h4 : ¬ (lastA x != e.before) = true := fun h5 => h2 ⟨⟨h0, by simp⟩, h5⟩
            have h5 : lastA x = e.before := by simpa using h4
            rw [← hq]; exact h5.symm
end Go.Proofs.YtkpjjohanbiagaaDoor
