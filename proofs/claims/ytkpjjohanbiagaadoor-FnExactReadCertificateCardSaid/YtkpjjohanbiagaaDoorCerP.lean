/- The text of a certificate: the plain law. -/
import Derived.Test.YtkpjjohanbiagaaDoorCertS
import Derived.Test.YtkpjjohanbiagaaDoorPowP
namespace Go.Proofs.YtkpjjohanbiagaaDoor
set_option linter.unusedVariables false
set_option linter.unusedSimpArgs false
open Go.RowKit
def wordL : Nat → List UInt8
  | 1 => [100, 117, 109, 112]
  | 2 => [118, 111, 116, 101]
  | 3 => [115, 111, 108, 118, 101]
  | 4 => [112, 97, 114, 105, 116, 121]
  | _ => []
/-- the words of the kinds, as the program's text lays them -/
def Wrd (w : World) : Prop := w.var? Tryd.prog "loop.example/g00899/impl.sourceWords" = some #[.string (strB (wordL 0)), .string (strB (wordL 1)), .string (strB (wordL 2)), .string (strB (wordL 3)), .string (strB (wordL 4))]
theorem wrd_g : Tryd.prog.globalNamed "loop.example/g00899/impl.sourceWords" = some 0 := by kernel_rfl
theorem Wrd.cell {w : World} (h : Wrd w) {k : Nat} (hk : k < 5) : w.cell? ⟨0, k, none⟩ = some (.string (strB (wordL k))) := by
  rw [World.var?_cell wrd_g h k]
  match k, hk with
  | 0, _ => rfl
  | 1, _ => rfl
  | 2, _ => rfl
  | 3, _ => rfl
  | 4, _ => rfl
theorem Wrd.below {w w' : World} (h : Wrd w) (hb : Below w.heap.size w w') : Wrd w' :=
  var_below wrd_g (World.block_lt_of_cell? w _ (Wrd.cell h (k := 0) (by decide))) h hb
def srcT (s : Src) : List UInt8 := wordL s.kind.toNat ++ (32 :: Lib.itoa s.sector) ++ (if s.kind = 1 then 32 :: Lib.itoa s.dump else []) ++ [10]
def cerT (l : List Src) : List UInt8 := (l.map srcT).flatten
def cerS (l : List Src) : ByteArray := if certOk l then strB (cerT l) else .empty
theorem cerS_no {l : List Src} (h : certOk l = false) : cerS l = .empty := by unfold cerS; rw [h]; rfl
theorem cerS_yes {l : List Src} (h : certOk l = true) : cerS l = strB (cerT l) := by unfold cerS; rw [h]; rfl
theorem cerT_next {l : List Src} {k : Nat} {e : Src} {acc X : List UInt8} (he : l[k]? = some e) (H : Hid (X = acc ++ cerT (l.drop k))) : Hid (X = (acc ++ srcT e) ++ cerT (l.drop (k + 1))) := by
  obtain ⟨hk, rfl⟩ := List.getElem?_eq_some_iff.1 he
  exact Lib.hid (by rw [H.out, List.drop_eq_getElem_cons hk, cerT, List.map_cons, List.flatten_cons, List.append_assoc]; rfl)
theorem cerT_end {l : List Src} {k : Nat} {acc X : List UInt8} (hk : l.length ≤ k) (H : Hid (X = acc ++ cerT (l.drop k))) : X = acc := by
  rw [H.out, List.drop_of_length_le hk, cerT]; simp
theorem cer_all {l : List Src} : ∀ {last : Int}, certFrom last l = true → (∀ e ∈ l, (1 ≤ e.kind ∧ e.kind ≤ 4) ∧ (last + 1 ≤ e.sector ∧ e.sector ≤ 127) ∧ (0 ≤ e.dump ∧ e.dump ≤ 4)) ∧ (l ≠ [] → last + l.length ≤ 127) := by
  induction l with
  | nil => intro last _; exact ⟨fun e he => (by cases he), fun h => absurd rfl h⟩
  | cons a r ih =>
    intro last h
    rw [certFrom, Bool.and_eq_true] at h
    obtain ⟨h1, h2, h3, _⟩ := srcOk_iff.1 h.1
    obtain ⟨i1, i2⟩ := ih h.2
    refine ⟨fun e he => ?_, fun _ => ?_⟩
    · rcases List.mem_cons.1 he with rfl | he
      · exact ⟨h1, h2, h3⟩
      · obtain ⟨j1, j2, j3⟩ := i1 e he
        exact ⟨j1, by omega, j3⟩
    · by_cases hr : r = []
      · subst hr; simp; omega
      · have := i2 hr; simp only [List.length_cons]; omega
theorem cer_ent {l : List Src} (h : certOk l = true) {e : Src} (he : e ∈ l) : (1 ≤ e.kind ∧ e.kind ≤ 4) ∧ (0 ≤ e.sector ∧ e.sector ≤ 127) ∧ (0 ≤ e.dump ∧ e.dump ≤ 4) := by
  obtain ⟨h1, h2, h3⟩ := (cer_all h).1 e he
  exact ⟨h1, by omega, h3⟩
theorem cer_len {l : List Src} (h : certOk l = true) : l.length ≤ 128 := by
  by_cases hl : l = []
  · subst hl; simp
  · have := (cer_all h).2 hl; omega
theorem ito_le {n : Int} (h : 0 ≤ n ∧ n ≤ 65535) : (Lib.itoa n).length ≤ 21 := Lib.itoa_length_le n (by omega) (by omega)
theorem word_le (k : Nat) : (wordL k).length ≤ 6 := by
  match k with
  | 0 => decide
  | 1 => decide
  | 2 => decide
  | 3 => decide
  | 4 => decide
  | k + 5 => exact Nat.zero_le _
theorem srcT_le {e : Src} (h2 : 0 ≤ e.sector ∧ e.sector ≤ 127) (h3 : 0 ≤ e.dump ∧ e.dump ≤ 4) : (srcT e).length ≤ 60 := by
  have h1 := ito_le (n := e.sector) (by omega)
  have h4 := ito_le (n := e.dump) (by omega)
  have h5 := word_le e.kind.toNat
  unfold srcT
  split <;> simp only [List.length_append, List.length_cons, List.length_nil] <;> omega
theorem src_one {e : Src} (h : e.kind = 1) : srcT e = (wordL 1 ++ (32 :: Lib.itoa e.sector)) ++ ((32 :: Lib.itoa e.dump) ++ [10]) := by
  unfold srcT; rw [if_pos h, h]; simp
theorem src_more {e : Src} (h : ¬ e.kind = 1) : srcT e = (wordL e.kind.toNat ++ (32 :: Lib.itoa e.sector)) ++ [10] := by
  unfold srcT; rw [if_neg h]; simp
end Go.Proofs.YtkpjjohanbiagaaDoor
