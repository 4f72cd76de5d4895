/- JoinLedgers, impl and spec. -/
import Derived.Test.YtkpjjohanbiagaaDoorAppLaw
namespace Go.Proofs.YtkpjjohanbiagaaDoor
set_option linter.unusedVariables false
set_option linter.unusedSimpArgs false
open Go.RowKit

theorem broken_ent {l : List Ent} : ∀ {i : Nat} {last prev : Int}, broken i last prev l < 0 → ∀ (k : Nat) (e : Ent), l[k]? = some e → (0 ≤ e.before ∧ e.before ≤ 65535) ∧ (0 ≤ e.after ∧ e.after ≤ 65535) := by
  induction l with
  | nil => intro i last prev _ k e he; simp at he
  | cons a r ih =>
    intro i last prev hb k e he
    rw [broken] at hb
    split at hb
    · rename_i hok
      cases k with
      | zero =>
        simp at he; subst he
        simp [entOk, inB] at hok
        omega
      | succ k => exact ih hb k e (by simpa using he)
    · omega
theorem ok_ent {l : List Ent} (h : ledgerOk l = true) {k : Nat} {e : Ent} (he : l[k]? = some e) : (0 ≤ e.before ∧ e.before ≤ 65535) ∧ (0 ≤ e.after ∧ e.after ≤ 65535) :=
  broken_ent (by simpa [ledgerOk] using h) k e he
def joinF (acc : List Ent) (e : Ent) : List Ent := acc ++ [nextE acc e.verb e.before e.after]
def joinL (x y : List Ent) : List Ent := y.foldl joinF x
theorem join_next {x y acc : List Ent} {k : Nat} {e : Ent} (he : y[k]? = some e) (H : Hid (joinL x y = joinL acc (y.drop k))) : Hid (joinL x y = joinL (acc ++ [nextE acc e.verb e.before e.after]) (y.drop (k + 1))) :=
  Lib.hid (by rw [H.out, drop_cons he]; rfl)
theorem join_end {x y acc : List Ent} {k : Nat} (hk : y.length ≤ k) (H : Hid (joinL x y = joinL acc (y.drop k))) : joinL x y = acc := by
  rw [H.out, List.drop_of_length_le hk]; rfl
theorem lastC_app (acc : List Ent) (e : Ent) : lastC (acc ++ [e]) = e.chain := by
  rw [lastC_get (by simp), List.getD_eq_getElem?_getD]; simp
def joinE (x y : List Ent) : List Ent × Int :=
  if (ledgerOk x && ledgerOk y) = false then ([], 1)
  else if (x ≠ [] ∧ y ≠ []) ∧ (lastA x != (y.headD default).before) = true then ([], 6)
  else if 30 < x.length + y.length then ([], 5)
  else (joinL x y, 0)
theorem join_len (x y : List Ent) : (joinL x y).length = x.length + y.length := by
  unfold joinL
  induction y generalizing x with
  | nil => rfl
  | cons a r ih => rw [List.foldl_cons, ih]; simp [joinF]; omega
theorem joinE_len (x y : List Ent) : (joinE x y).1.length ≤ x.length + y.length := by
  unfold joinE; split; simp; split; simp; split; simp; simp [join_len]
theorem joinE_no {x y : List Ent} (h : (ledgerOk x && ledgerOk y) = false) : joinE x y = ([], 1) := by simp [joinE, h]
theorem joinE_gap {x y : List Ent} (h : ledgerOk x = true) (h' : ledgerOk y = true) (hx : x ≠ []) (hy : y ≠ []) (h1 : (lastA x != (y.headD default).before) = true) : joinE x y = ([], 6) := by
  rw [joinE, if_neg (by simp [h, h']), if_pos ⟨⟨hx, hy⟩, h1⟩]
theorem joinE_full {x y : List Ent} (h : ledgerOk x = true) (h' : ledgerOk y = true) (h1 : (x = [] ∨ y = []) ∨ (lastA x != (y.headD default).before) = false) (h2 : 30 < x.length + y.length) : joinE x y = ([], 5) := by
  rw [joinE, if_neg (by simp [h, h']), if_neg (by rintro ⟨⟨p, q⟩, r⟩; rcases h1 with (h1 | h1) | h1; exact p h1; exact q h1; rw [h1] at r; cases r), if_pos h2]
theorem joinE_yes {x y : List Ent} (h : ledgerOk x = true) (h' : ledgerOk y = true) (h1 : (x = [] ∨ y = []) ∨ (lastA x != (y.headD default).before) = false) (h2 : ¬ 30 < x.length + y.length) : joinE x y = (joinL x y, 0) := by
  rw [joinE, if_neg (by simp [h, h']), if_neg (by rintro ⟨⟨p, q⟩, r⟩; rcases h1 with (h1 | h1) | h1; exact p h1; exact q h1; rw [h1] at r; cases r), if_neg h2]

end Go.Proofs.YtkpjjohanbiagaaDoor
