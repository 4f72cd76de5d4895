/- A certificate read from its text: both ways of reading are one. Plain laws. -/
import Derived.Test.YtkpjjohanbiagaaDoorRdlP
import Derived.Test.YtkpjjohanbiagaaDoorCerP
namespace Go.Proofs.YtkpjjohanbiagaaDoor
set_option linter.unusedVariables false
set_option linter.unusedSimpArgs false
open Go.RowKit
/-- the kind of a word, 0 for none -/
def kindS (w : List UInt8) : Int := if w = wordL 1 then 1 else if w = wordL 2 then 2 else if w = wordL 3 then 3 else if w = wordL 4 then 4 else 0
def srcI (q : List UInt8) : Option Src := (numsD (splitF 32 [] (Lib.cut (Lib.trimSuffix q [10]) [32]).2.1)).bind fun ns => if kindS (Lib.cut (Lib.trimSuffix q [10]) [32]).1 = 0 then none else match ns with
  | [a] => some ⟨kindS (Lib.cut (Lib.trimSuffix q [10]) [32]).1, a, 0⟩
  | [a, b] => some ⟨kindS (Lib.cut (Lib.trimSuffix q [10]) [32]).1, a, b⟩
  | _ => none
def srcsI : List (List UInt8) → Option (List Src)
  | [] => some []
  | q :: r => (srcI q).bind fun e => (srcsI r).map fun l => e :: l
/-- the program's reading -/
def rcI (s : List UInt8) : List Src × Bool := match srcsI (linesF [] s) with
  | none => ([], false)
  | some l => if certOk l = true ∧ cerT l = s then (l, true) else ([], false)
def srcW (ws : List (List UInt8)) : Option Src := match ws with
  | [w, a] => if kindS w = 1 then none else some ⟨kindS w, numS a, 0⟩
  | [w, a, b] => if kindS w = 1 then some ⟨1, numS a, numS b⟩ else none
  | _ => none
def srcsW : List (List UInt8) → Option (List Src)
  | [] => some []
  | q :: r => (srcW (splitF 32 [] q)).bind fun e => (srcsW r).map fun l => e :: l
/-- the reference's reading -/
def rcS (s : List UInt8) : List Src × Bool :=
  if (splitF 10 [] s).getLast? = some [] ∧ (splitF 10 [] s).length ≤ 129 then (match srcsW (splitF 10 [] s).dropLast with
    | some l => if certOk l then (l, true) else ([], false)
    | none => ([], false)) else ([], false)
structure SrcN (e : Src) : Prop where
  k : e.kind = 1 ∨ ((e.kind = 2 ∨ e.kind = 3 ∨ e.kind = 4) ∧ e.dump = 0)
  s : 0 ≤ e.sector ∧ e.sector ≤ 65535
  d : 0 ≤ e.dump ∧ e.dump ≤ 65535
def lineC (s : Src) : List UInt8 := wordL s.kind.toNat ++ 32 :: (Lib.itoa s.sector ++ if s.kind = 1 then 32 :: Lib.itoa s.dump else [])
theorem srcT_line (s : Src) : srcT s = lineC s ++ [10] := by
  unfold srcT lineC; simp
theorem lineC_one {s : Src} (h : s.kind = 1) : lineC s = wordL 1 ++ 32 :: (Lib.itoa s.sector ++ 32 :: Lib.itoa s.dump) := by
  unfold lineC; rw [if_pos h, h]; rfl
theorem lineC_more {s : Src} (h : s.kind ≠ 1) : lineC s = wordL s.kind.toNat ++ 32 :: Lib.itoa s.sector := by
  unfold lineC; rw [if_neg h]; simp
theorem word_free (c : UInt8) (h : c = 10 ∨ c = 32) (k : Nat) : c ∉ wordL k := by
  match k with
  | 0 => simp [wordL]
  | 1 => rcases h with rfl | rfl <;> decide
  | 2 => rcases h with rfl | rfl <;> decide
  | 3 => rcases h with rfl | rfl <;> decide
  | 4 => rcases h with rfl | rfl <;> decide
  | k + 5 => simp [wordL]
theorem kind_word {k : Int} (h : k = 1 ∨ k = 2 ∨ k = 3 ∨ k = 4) : kindS (wordL k.toNat) = k := by
  rcases h with rfl | rfl | rfl | rfl <;> decide
theorem word_kind {w : List UInt8} (h : kindS w ≠ 0) : w = wordL (kindS w).toNat ∧ 1 ≤ kindS w ∧ kindS w ≤ 4 := by
  unfold kindS at h ⊢
  repeat' split
  all_goals first
    | (rename_i hw; exact ⟨hw, by decide, by decide⟩)
    | (exact absurd (by simp_all) h)
theorem line_10c {s : Src} (h : SrcN s) : (10 : UInt8) ∉ lineC s := by
  unfold lineC
  simp only [List.mem_append, List.mem_cons, not_or]
  refine ⟨word_free 10 (.inl rfl) _, by decide, itoa_free h.s.1 _ c10, ?_⟩
  split
  · simp only [List.mem_cons, not_or]
    exact ⟨by decide, itoa_free h.d.1 _ c10⟩
  · simp
theorem srcW_line {s : Src} (h : SrcN s) : srcW (splitF 32 [] (lineC s)) = some s := by
  obtain ⟨kind, sector, dump⟩ := s
  obtain ⟨hk, hs, hd⟩ := h
  simp only at hk hs hd
  rcases hk with rfl | ⟨hk, rfl⟩
  · rw [lineC_one rfl, splitF_hit (word_free 32 (.inr rfl) 1), splitF_hit (itoa_free hs.1 _ c32), splitF_no (itoa_free hd.1 _ c32)]
    simp only [List.nil_append, srcW]
    rw [if_pos (by decide), numS_itoa hs, numS_itoa hd]
  · have h1 : kind ≠ 1 := by omega
    rw [lineC_more h1, splitF_hit (word_free 32 (.inr rfl) _), splitF_no (itoa_free hs.1 _ c32)]
    simp only [List.nil_append, srcW]
    rw [kind_word (by omega), if_neg h1, numS_itoa hs]
theorem srcI_line {s : Src} (h : SrcN s) : srcI (lineC s ++ [10]) = some s := by
  obtain ⟨kind, sector, dump⟩ := s
  obtain ⟨hk, hs, hd⟩ := h
  simp only at hk hs hd
  unfold srcI
  rw [trim_line]
  rcases hk with rfl | ⟨hk, rfl⟩
  · rw [lineC_one rfl, cut_word (word_free 32 (.inr rfl) 1)]
    show (numsD (splitF 32 [] (Lib.itoa sector ++ 32 :: Lib.itoa dump))).bind _ = _
    rw [splitF_hit (itoa_free hs.1 _ c32), splitF_no (itoa_free hd.1 _ c32)]
    simp only [List.nil_append]
    rw [numsD_cons, rdD_itoa hs, Option.bind_some, numsD_cons, rdD_itoa hd, Option.bind_some, numsD]
    simp only [Option.map_some, Option.bind_some]
    rw [if_neg (by decide)]; rfl
  · have h1 : kind ≠ 1 := by omega
    rw [lineC_more h1, cut_word (word_free 32 (.inr rfl) _)]
    show (numsD (splitF 32 [] (Lib.itoa sector))).bind _ = _
    rw [splitF_no (itoa_free hs.1 _ c32)]
    simp only [List.nil_append]
    rw [numsD_cons, rdD_itoa hs, Option.bind_some, numsD]
    simp only [Option.map_some, Option.bind_some]
    rw [kind_word (by omega), if_neg (by omega)]
theorem cerT_cons (e : Src) (l : List Src) : cerT (e :: l) = lineC e ++ 10 :: cerT l := by
  unfold cerT
  rw [List.map_cons, List.flatten_cons, srcT_line]; simp
theorem lines_cer {l : List Src} (h : ∀ e ∈ l, SrcN e) : srcsI (linesF [] (cerT l)) = some l := by
  induction l with
  | nil => simp [cerT, linesF, srcsI]
  | cons e l ih =>
    have he := h e (by simp)
    rw [cerT_cons, linesF_hit (line_10c he), srcsI, List.nil_append, srcI_line he, Option.bind_some, ih (fun x hx => h x (by simp [hx]))]
    rfl
theorem split_cer {l : List Src} (h : ∀ e ∈ l, SrcN e) : splitF 10 [] (cerT l) = l.map lineC ++ [[]] := by
  induction l with
  | nil => simp [cerT, splitF]
  | cons e l ih =>
    rw [cerT_cons, splitF_hit (line_10c (h e (by simp))), ih (fun x hx => h x (by simp [hx]))]
    simp
theorem srcsW_cer {l : List Src} (h : ∀ e ∈ l, SrcN e) : srcsW (l.map lineC) = some l := by
  induction l with
  | nil => rfl
  | cons e l ih =>
    rw [List.map_cons, srcsW, srcW_line (h e (by simp)), Option.bind_some, ih (fun x hx => h x (by simp [hx]))]
    rfl
theorem cer_dump {l : List Src} (h : certOk l = true) : ∀ e ∈ l, e.dump = 0 ∨ e.kind = 1 := by
  have key : ∀ (l : List Src) (last : Int), certFrom last l = true → ∀ e ∈ l, e.dump = 0 ∨ e.kind = 1 := by
    intro l
    induction l with
    | nil => intro _ _ e he; cases he
    | cons a r ih =>
      intro last h e he
      rw [certFrom, Bool.and_eq_true] at h
      rcases List.mem_cons.1 he with rfl | he
      · exact (srcOk_iff.1 h.1).2.2.2
      · exact ih _ h.2 e he
  exact key l (-1) h
theorem cer_n {l : List Src} (h : certOk l = true) : ∀ e ∈ l, SrcN e := fun e he => by
  obtain ⟨h1, h2, h3⟩ := cer_ent h he
  have h4 := cer_dump h e he
  exact ⟨by omega, by omega, by omega⟩
theorem rcS_cer {l : List Src} (h : certOk l = true) : rcS (cerT l) = (l, true) := by
  unfold rcS
  have hn := cer_n h
  have hl := cer_len h
  rw [split_cer hn, if_pos ⟨by simp, by simp; omega⟩, List.dropLast_concat, srcsW_cer hn]
  simp only [h, if_true]
theorem srcsW_back {q : List (List UInt8)} : ∀ {l : List Src}, srcsW q = some l → (∀ e ∈ l, 1 ≤ e.kind ∧ 0 ≤ e.sector ∧ 0 ≤ e.dump) → (q.map fun p => p ++ [10]).flatten = cerT l := by
  induction q with
  | nil => intro l h _; obtain rfl : l = [] := by simpa [srcsW] using h.symm
           rfl
  | cons p q ih =>
    intro l h hb
    rw [srcsW] at h
    obtain ⟨e, he, h⟩ := Option.bind_eq_some_iff.1 h
    obtain ⟨r, hr, rfl⟩ := Option.map_eq_some_iff.1 h
    have h1 := ih hr (fun x hx => hb x (by simp [hx]))
    have hbe := hb e (by simp)
    have hc := cat_split 32 p []
    rw [List.nil_append] at hc
    generalize splitF 32 [] p = ws at *
    unfold srcW at he
    split at he
    · rename_i w a
      split at he
      · cases he
      · rename_i hk
        obtain rfl := Option.some.inj he
        simp only [catF] at hc
        simp only at hbe
        obtain ⟨hw, _⟩ := word_kind (w := w) (by omega)
        rw [List.map_cons, List.flatten_cons, h1, cerT_cons, lineC_more hk]
        simp only [itoa_numS hbe.2.1]
        rw [← hw, hc]; simp
    · rename_i w a b
      split at he
      · rename_i hk
        obtain rfl := Option.some.inj he
        simp only [catF] at hc
        simp only at hbe
        obtain ⟨hw, _⟩ := word_kind (w := w) (by omega)
        rw [hk] at hw
        rw [List.map_cons, List.flatten_cons, h1, cerT_cons, lineC_one rfl]
        simp only [itoa_numS hbe.2.1, itoa_numS hbe.2.2]
        have hw' : w = wordL 1 := hw
        rw [← hw', hc]; simp
      · cases he
    · cases he
theorem rcS_back {s : List UInt8} {l : List Src} (h : rcS s = (l, true)) : certOk l = true ∧ s = cerT l := by
  unfold rcS at h
  split at h
  · rename_i hc
    cases he : srcsW (splitF 10 [] s).dropLast with
    | none => rw [he] at h; simp at h
    | some l' =>
      rw [he] at h
      simp only [] at h
      split at h
      · rename_i hok
        obtain rfl : l' = l := congrArg Prod.fst h
        refine ⟨hok, ?_⟩
        have h1 := srcsW_back he (fun e hx => by have := cer_ent hok hx; omega)
        have h2 := cat_split 10 s []
        rw [cat_lines 10 _ (splitF_ne 10 s []), h1] at h2
        have h3 : (splitF 10 [] s).getLast (splitF_ne 10 s []) = [] := by
          have := hc.1
          rw [List.getLast?_eq_some_getLast (splitF_ne 10 s [])] at this
          exact Option.some.inj this
        rw [h3] at h2; simpa using h2.symm
      · simp at h
  · simp at h
theorem rcS_two (s : List UInt8) : rcS s = ([], false) ∨ ∃ l, rcS s = (l, true) := by
  unfold rcS
  split
  · cases srcsW (splitF 10 [] s).dropLast with
    | none => exact .inl rfl
    | some l =>
      simp only []
      split
      · exact .inr ⟨l, rfl⟩
      · exact .inl rfl
  · exact .inl rfl
theorem rc_same (s : List UInt8) : rcI s = rcS s := by
  rcases rcS_two s with h | ⟨l, h⟩
  · rw [h]
    unfold rcI
    cases he : srcsI (linesF [] s) with
    | none => rfl
    | some l =>
      simp only []
      split
      · rename_i hc
        have := rcS_cer hc.1
        rw [hc.2, h] at this; simp at this
      · rfl
  · rw [h]
    obtain ⟨h1, rfl⟩ := rcS_back h
    unfold rcI
    rw [lines_cer (cer_n h1)]
    simp only [h1, true_and, if_true]
end Go.Proofs.YtkpjjohanbiagaaDoor
