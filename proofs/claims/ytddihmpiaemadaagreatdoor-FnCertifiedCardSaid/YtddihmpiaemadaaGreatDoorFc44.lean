/- The helpers of the laws over impl.Entry: sizes, copies, comparison, marks. Printed by gen_flat.py. FirstBroken and ValidLedger over slices of the call's own. The text of a ledger: the plain law. A ledger read from its text: both ways of reading are one. Plain laws. A certificate read from its text: both ways of reading are one. Plain laws. A range over a function whose iterator keeps its own state in a box; regions within a round: laws of no program. A drawn region within a round, one of whose loads need not come ahead of a row that the region lays: laws of no program. LedgerText, impl: the walks. -/
import Derived.Test.YtddihmpiaemadaaGreatDoorFc01
import Derived.Test.YtddihmpiaemadaaGreatDoorFc02
import Derived.Test.YtddihmpiaemadaaGreatDoorFc43
import Derived.Test.YtddihmpiaemadaaGreatDoorFc41
import Derived.Test.YtddihmpiaemadaaGreatDoorFc42
import Derived.RangeFuncBox
import Derived.RangeFuncCalls
import Derived.RangeFuncLeaves
import Derived.OrdersIn
import Derived.StillTail
import Derived.Deep.RegionLaw
import Derived.Stop.Looks
import Derived.Lib.AppendIntMem
import Derived.Deep.RegionHeld3
namespace Go.Proofs.YtddihmpiaemadaaGreatDoor
set_option linter.unusedVariables false
set_option linter.unusedSimpArgs false
open Go.RowKit

theorem Ent.len (e : Ent) : e.cells.length = 4 := rfl
def Ent.wt (e : Ent) : Nat := e.verb.size
def Ent.wts (l : List Ent) : Nat := (l.map Ent.wt).foldr (· + ·) 0
theorem Ent.wts_drop {l : List Ent} {k : Nat} {e : Ent} (he : l[k]? = some e) : Ent.wts (l.drop k) = Ent.wt e + Ent.wts (l.drop (k + 1)) := by
  obtain ⟨h, rfl⟩ := List.getElem?_eq_some_iff.1 he
  rw [List.drop_eq_getElem_cons h]; rfl
def Ent.zero : Ent := ⟨.empty, 0, 0, 0⟩
instance : Inhabited Ent := ⟨Ent.zero⟩

def Ent.mark (k : Nat) : Ent := ⟨mt k, ((k + 1 : Nat) : Int), ((k + 2 : Nat) : Int), ((k + 3 : Nat) : Int)⟩
def Ent.marks (k n : Nat) : List Ent := (List.range n).map fun i => Ent.mark (k + i * 4)
theorem Ent.marks_len (k n : Nat) : (Ent.marks k n).length = n := by simp [Ent.marks]
theorem Ent.marks_get (k n i : Nat) (h : i < n) : (Ent.marks k n)[i]? = some (Ent.mark (k + i * 4)) := by simp [Ent.marks, h]
theorem Ent.marks_succ (k n : Nat) : Ent.marks k (n + 1) = Ent.marks k n ++ [Ent.mark (k + n * 4)] := by simp [Ent.marks, List.range_succ]
theorem Ent.mid_get (k0 k : Nat) (l : List Ent) : (Ent.marks k0 k ++ l.drop k)[k]? = l[k]? := by
  rw [List.getElem?_append_right (by rw [Ent.marks_len]; omega), Ent.marks_len, Nat.sub_self, List.getElem?_drop, Nat.add_zero]
theorem Ent.mid_len (k0 k : Nat) (l : List Ent) (h : k ≤ l.length) : (Ent.marks k0 k ++ l.drop k).length = l.length := by simp [Ent.marks_len]; omega
theorem Ent.mid_set (k0 k : Nat) (l : List Ent) (h : k < l.length) : (Ent.marks k0 k ++ l.drop k).set k (Ent.mark (k0 + k * 4)) = Ent.marks k0 (k + 1) ++ l.drop (k + 1) := by
  rw [List.set_append_right _ _ (by rw [Ent.marks_len]; omega), Ent.marks_len, Nat.sub_self, List.drop_eq_getElem_cons h, List.set_cons_zero, Ent.marks_succ, List.append_assoc]; rfl
end Go.Proofs.YtddihmpiaemadaaGreatDoor
namespace Go.Proofs.YtddihmpiaemadaaGreatDoor
set_option linter.unusedVariables false
set_option linter.unusedSimpArgs false
open Go.RowKit

def ledgerOk (l : List Ent) : Bool := decide (broken 0 0 0 l < 0)
end Go.Proofs.YtddihmpiaemadaaGreatDoor
namespace Go.Proofs.YtddihmpiaemadaaGreatDoor
set_option linter.unusedVariables false
set_option linter.unusedSimpArgs false
open Go.RowKit
def entT (e : Ent) : List UInt8 := e.verb.data.toList ++ (32 :: (Lib.join [Lib.itoa e.before, Lib.itoa e.after, Lib.itoa e.chain] [32] ++ [10]))
def ledT (l : List Ent) : List UInt8 := (l.map entT).flatten
def ledS (l : List Ent) : ByteArray := if ledgerOk l then strB (ledT l) else .empty
end Go.Proofs.YtddihmpiaemadaaGreatDoor
namespace Go.Proofs.YtddihmpiaemadaaGreatDoor
set_option linter.unusedVariables false
set_option linter.unusedSimpArgs false
open Go.RowKit
def entW (ws : List (List UInt8)) : Option Ent := match ws with
  | [a, b, c, d] => some ⟨strB a, numS b, numS c, numS d⟩
  | _ => none
def entsW : List (List UInt8) → Option (List Ent)
  | [] => some []
  | q :: r => (entW (splitF 32 [] q)).bind fun e => (entsW r).map fun l => e :: l
/-- the reference's reading -/
def rdSX (s : List UInt8) : List Ent × Bool :=
  if (splitF 10 [] s).getLast? = some [] ∧ (splitF 10 [] s).length ≤ 31 then (match entsW (splitF 10 [] s).dropLast with
    | some l => if ledgerOk l then (l, true) else ([], false)
    | none => ([], false)) else ([], false)
def entI (q : List UInt8) : Option Ent := (numsD (splitF 32 [] (Lib.cut (Lib.trimSuffix q [10]) [32]).2.1)).bind fun ns => match ns with
  | [b, a, c] => some ⟨strB (Lib.cut (Lib.trimSuffix q [10]) [32]).1, b, a, c⟩
  | _ => none
def entsI : List (List UInt8) → Option (List Ent)
  | [] => some []
  | q :: r => (entI q).bind fun e => (entsI r).map fun l => e :: l
/-- the program's reading -/
def rdI (s : List UInt8) : List Ent × Bool := match entsI (linesF [] s) with
  | none => ([], false)
  | some l => if ledgerOk l = true ∧ ledT l = s then (l, true) else ([], false)
/-- an entry as its text bears it -/
structure EntN (e : Ent) : Prop where
  v10 : (10 : UInt8) ∉ e.verb.data.toList
  v32 : (32 : UInt8) ∉ e.verb.data.toList
  b : 0 ≤ e.before ∧ e.before ≤ 65535
  a : 0 ≤ e.after ∧ e.after ≤ 65535
  c : 0 ≤ e.chain ∧ e.chain ≤ 65535
def lineT (e : Ent) : List UInt8 := e.verb.data.toList ++ 32 :: (Lib.itoa e.before ++ 32 :: (Lib.itoa e.after ++ 32 :: Lib.itoa e.chain))
theorem itoa_dec {n : Int} (h : 0 ≤ n) : ∃ m : Nat, n = m ∧ Lib.itoa n = Lib.decDigits m := by
  obtain ⟨m, rfl⟩ := Int.eq_ofNat_of_zero_le h
  exact ⟨m, rfl, itoa_nat m⟩
theorem dec_free (c : UInt8) (h : c.toNat < 48) (n : Nat) : c ∉ Lib.decDigits n := fun hm => by
  have := dec_mem n c hm; omega
theorem itoa_free {n : Int} (h : 0 ≤ n) (c : UInt8) (hc : c.toNat < 48) : c ∉ Lib.itoa n := by
  obtain ⟨m, _, e⟩ := itoa_dec h
  rw [e]; exact dec_free c hc m
theorem c10 : (10 : UInt8).toNat < 48 := by decide
theorem c32 : (32 : UInt8).toNat < 48 := by decide
theorem numS_itoa {n : Int} (h : 0 ≤ n ∧ n ≤ 65535) : numS (Lib.itoa n) = n := by
  obtain ⟨m, rfl, e⟩ := itoa_dec h.1
  rw [e, numS_dec (by omega)]
theorem rdD_itoa {n : Int} (h : 0 ≤ n ∧ n ≤ 65535) : rdDX (Lib.itoa n) = some n := by
  obtain ⟨m, rfl, e⟩ := itoa_dec h.1
  rw [e, rdD_dec (by omega)]
theorem itoa_numS {l : List UInt8} (h : 0 ≤ numS l) : Lib.itoa (numS l) = l := by
  obtain ⟨m, hm⟩ := Int.eq_ofNat_of_zero_le h
  rw [hm]
  rw [itoa_nat]; exact (numS_some hm).symm
theorem stopR {p : Prop} (h : True → p) : p := h trivial
end Go.Proofs.YtddihmpiaemadaaGreatDoor
namespace Go.Proofs.YtddihmpiaemadaaGreatDoor
set_option linter.unusedVariables false
set_option linter.unusedSimpArgs false
open Go.RowKit
/-- the kind of a word, 0 for none -/
def kindS (w : List UInt8) : Int := if w = wordL 1 then 1 else if w = wordL 2 then 2 else if w = wordL 3 then 3 else if w = wordL 4 then 4 else 0
def srcI (q : List UInt8) : Option Src := (numsD (splitF 32 [] (Lib.cut (Lib.trimSuffix q [10]) [32]).2.1)).bind fun ns => if kindS (Lib.cut (Lib.trimSuffix q [10]) [32]).1 = 0 then none else match ns with
  | [a] => some ⟨kindS (Lib.cut (Lib.trimSuffix q [10]) [32]).1, a, 0⟩
  | [a, b] => some ⟨kindS (Lib.cut (Lib.trimSuffix q [10]) [32]).1, a, b⟩
  | _ => none
def srcsI : List (List UInt8) → Option (List Src)
  | [] => some []
  | q :: r => (srcI q).bind fun e => (srcsI r).map fun l => e :: l
/-- the program's reading -/
def rcI (s : List UInt8) : List Src × Bool := match srcsI (linesF [] s) with
  | none => ([], false)
  | some l => if certOk l = true ∧ cerT l = s then (l, true) else ([], false)
def srcW (ws : List (List UInt8)) : Option Src := match ws with
  | [w, a] => if kindS w = 1 then none else some ⟨kindS w, numS a, 0⟩
  | [w, a, b] => if kindS w = 1 then some ⟨1, numS a, numS b⟩ else none
  | _ => none
def srcsW : List (List UInt8) → Option (List Src)
  | [] => some []
  | q :: r => (srcW (splitF 32 [] q)).bind fun e => (srcsW r).map fun l => e :: l
/-- the reference's reading -/
def rcS (s : List UInt8) : List Src × Bool :=
  if (splitF 10 [] s).getLast? = some [] ∧ (splitF 10 [] s).length ≤ 129 then (match srcsW (splitF 10 [] s).dropLast with
    | some l => if certOk l then (l, true) else ([], false)
    | none => ([], false)) else ([], false)
structure SrcN (e : Src) : Prop where
  k : e.kind = 1 ∨ ((e.kind = 2 ∨ e.kind = 3 ∨ e.kind = 4) ∧ e.dump = 0)
  s : 0 ≤ e.sector ∧ e.sector ≤ 65535
  d : 0 ≤ e.dump ∧ e.dump ≤ 65535
def lineC (s : Src) : List UInt8 := wordL s.kind.toNat ++ 32 :: (Lib.itoa s.sector ++ if s.kind = 1 then 32 :: Lib.itoa s.dump else [])
theorem srcT_line (s : Src) : srcT s = lineC s ++ [10] := by
  unfold srcT lineC; simp
theorem lineC_one {s : Src} (h : s.kind = 1) : lineC s = wordL 1 ++ 32 :: (Lib.itoa s.sector ++ 32 :: Lib.itoa s.dump) := by
  unfold lineC; rw [if_pos h, h]; rfl
theorem lineC_more {s : Src} (h : s.kind ≠ 1) : lineC s = wordL s.kind.toNat ++ 32 :: Lib.itoa s.sector := by
  unfold lineC; rw [if_neg h]; simp
theorem word_free (c : UInt8) (h : c = 10 ∨ c = 32) (k : Nat) : c ∉ wordL k := by
  match k with
  | 0 => simp [wordL]
  | 1 => rcases h with rfl | rfl <;> decide
  | 2 => rcases h with rfl | rfl <;> decide
  | 3 => rcases h with rfl | rfl <;> decide
  | 4 => rcases h with rfl | rfl <;> decide
  | k + 5 => simp [wordL]
theorem kind_word {k : Int} (h : k = 1 ∨ k = 2 ∨ k = 3 ∨ k = 4) : kindS (wordL k.toNat) = k := by
  rcases h with rfl | rfl | rfl | rfl <;> decide
theorem word_kind {w : List UInt8} (h : kindS w ≠ 0) : w = wordL (kindS w).toNat ∧ 1 ≤ kindS w ∧ kindS w ≤ 4 := by
  unfold kindS at h ⊢
  repeat' split
  all_goals first
    | (rename_i hw; exact ⟨hw, by decide, by decide⟩)
    | (exact absurd (by simp_all) h)
theorem line_10c {s : Src} (h : SrcN s) : (10 : UInt8) ∉ lineC s := by
  unfold lineC
  simp only [List.mem_append, List.mem_cons, not_or]
  refine ⟨word_free 10 (.inl rfl) _, by decide, itoa_free h.s.1 _ c10, ?_⟩
  split
  · simp only [List.mem_cons, not_or]
    exact ⟨by decide, itoa_free h.d.1 _ c10⟩
  · simp
theorem srcW_line {s : Src} (h : SrcN s) : srcW (splitF 32 [] (lineC s)) = some s := by
  obtain ⟨kind, sector, dump⟩ := s
  obtain ⟨hk, hs, hd⟩ := h
  simp only at hk hs hd
  rcases hk with rfl | ⟨hk, rfl⟩
  · rw [lineC_one rfl, splitF_hit (word_free 32 (.inr rfl) 1), splitF_hit (itoa_free hs.1 _ c32), splitF_no (itoa_free hd.1 _ c32)]
    simp only [List.nil_append, srcW]
    rw [if_pos (by decide), numS_itoa hs, numS_itoa hd]
  · have h1 : kind ≠ 1 := by omega
    rw [lineC_more h1, splitF_hit (word_free 32 (.inr rfl) _), splitF_no (itoa_free hs.1 _ c32)]
    simp only [List.nil_append, srcW]
    rw [kind_word (by omega), if_neg h1, numS_itoa hs]
theorem srcI_line {s : Src} (h : SrcN s) : srcI (lineC s ++ [10]) = some s := by
  obtain ⟨kind, sector, dump⟩ := s
  obtain ⟨hk, hs, hd⟩ := h
  simp only at hk hs hd
  unfold srcI
  rw [trim_line]
  rcases hk with rfl | ⟨hk, rfl⟩
  · rw [lineC_one rfl, cut_word (word_free 32 (.inr rfl) 1)]
    show (numsD (splitF 32 [] (Lib.itoa sector ++ 32 :: Lib.itoa dump))).bind _ = _
    rw [splitF_hit (itoa_free hs.1 _ c32), splitF_no (itoa_free hd.1 _ c32)]
    simp only [List.nil_append]
    rw [numsD_cons, rdD_itoa hs, Option.bind_some, numsD_cons, rdD_itoa hd, Option.bind_some, numsD]
    simp only [Option.map_some, Option.bind_some]
    rw [if_neg (by decide)]; rfl
  · have h1 : kind ≠ 1 := by omega
    rw [lineC_more h1, cut_word (word_free 32 (.inr rfl) _)]
    show (numsD (splitF 32 [] (Lib.itoa sector))).bind _ = _
    rw [splitF_no (itoa_free hs.1 _ c32)]
    simp only [List.nil_append]
    rw [numsD_cons, rdD_itoa hs, Option.bind_some, numsD]
    simp only [Option.map_some, Option.bind_some]
    rw [kind_word (by omega), if_neg (by omega)]
theorem cerT_cons (e : Src) (l : List Src) : cerT (e :: l) = lineC e ++ 10 :: cerT l := by
  unfold cerT
  rw [List.map_cons, List.flatten_cons, srcT_line]; simp
theorem lines_cer {l : List Src} (h : ∀ e ∈ l, SrcN e) : srcsI (linesF [] (cerT l)) = some l := by
  induction l with
  | nil => simp [cerT, linesF, srcsI]
  | cons e l ih =>
    have he := h e (by simp)
    rw [cerT_cons, linesF_hit (line_10c he), srcsI, List.nil_append, srcI_line he, Option.bind_some, ih (fun x hx => h x (by simp [hx]))]
    rfl
theorem split_cer {l : List Src} (h : ∀ e ∈ l, SrcN e) : splitF 10 [] (cerT l) = l.map lineC ++ [[]] := by
  induction l with
  | nil => simp [cerT, splitF]
  | cons e l ih =>
    rw [cerT_cons, splitF_hit (line_10c (h e (by simp))), ih (fun x hx => h x (by simp [hx]))]
    simp
theorem srcsW_cer {l : List Src} (h : ∀ e ∈ l, SrcN e) : srcsW (l.map lineC) = some l := by
  induction l with
  | nil => rfl
  | cons e l ih =>
    rw [List.map_cons, srcsW, srcW_line (h e (by simp)), Option.bind_some, ih (fun x hx => h x (by simp [hx]))]
    rfl
theorem cer_dump {l : List Src} (h : certOk l = true) : ∀ e ∈ l, e.dump = 0 ∨ e.kind = 1 := by
  have key : ∀ (l : List Src) (last : Int), certFrom last l = true → ∀ e ∈ l, e.dump = 0 ∨ e.kind = 1 := by
    intro l
    induction l with
    | nil => intro _ _ e he; cases he
    | cons a r ih =>
      intro last h e he
      rw [certFrom, Bool.and_eq_true] at h
      rcases List.mem_cons.1 he with rfl | he
      · exact (srcOk_iff.1 h.1).2.2.2
      · exact ih _ h.2 e he
  exact key l (-1) h
theorem cer_n {l : List Src} (h : certOk l = true) : ∀ e ∈ l, SrcN e := fun e he => by
  obtain ⟨h1, h2, h3⟩ := cer_ent h he
  have h4 := cer_dump h e he
  exact ⟨by omega, by omega, by omega⟩
theorem rcS_cer {l : List Src} (h : certOk l = true) : rcS (cerT l) = (l, true) := by
  unfold rcS
  have hn := cer_n h
  have hl := cer_len h
  rw [split_cer hn, if_pos ⟨by simp, by simp; omega⟩, List.dropLast_concat, srcsW_cer hn]
  simp only [h, if_true]
theorem srcsW_back {q : List (List UInt8)} : ∀ {l : List Src}, srcsW q = some l → (∀ e ∈ l, 1 ≤ e.kind ∧ 0 ≤ e.sector ∧ 0 ≤ e.dump) → (q.map fun p => p ++ [10]).flatten = cerT l := by
  induction q with
  | nil => intro l h _; obtain rfl : l = [] := by simpa [srcsW] using h.symm
           rfl
  | cons p q ih =>
    intro l h hb
    rw [srcsW] at h
    obtain ⟨e, he, h⟩ := Option.bind_eq_some_iff.1 h
    obtain ⟨r, hr, rfl⟩ := Option.map_eq_some_iff.1 h
    have h1 := ih hr (fun x hx => hb x (by simp [hx]))
    have hbe := hb e (by simp)
    have hc := cat_split 32 p []
    rw [List.nil_append] at hc
    generalize splitF 32 [] p = ws at *
    unfold srcW at he
    split at he
    · rename_i w a
      split at he
      · cases he
      · rename_i hk
        obtain rfl := Option.some.inj he
        simp only [catF] at hc
        simp only at hbe
        obtain ⟨hw, _⟩ := word_kind (w := w) (by omega)
        rw [List.map_cons, List.flatten_cons, h1, cerT_cons, lineC_more hk]
        simp only [itoa_numS hbe.2.1]
        rw [← hw, hc]; simp
    · rename_i w a b
      split at he
      · rename_i hk
        obtain rfl := Option.some.inj he
        simp only [catF] at hc
        simp only at hbe
        obtain ⟨hw, _⟩ := word_kind (w := w) (by omega)
        rw [hk] at hw
        rw [List.map_cons, List.flatten_cons, h1, cerT_cons, lineC_one rfl]
        simp only [itoa_numS hbe.2.1, itoa_numS hbe.2.2]
        have hw' : w = wordL 1 := hw
        rw [← hw', hc]; simp
      · cases he
    · cases he
theorem rcS_back {s : List UInt8} {l : List Src} (h : rcS s = (l, true)) : certOk l = true ∧ s = cerT l := by
  unfold rcS at h
  split at h
  · rename_i hc
    cases he : srcsW (splitF 10 [] s).dropLast with
    | none => rw [he] at h; simp at h
    | some l' =>
      rw [he] at h
      simp only [] at h
      split at h
      · rename_i hok
        obtain rfl : l' = l := congrArg Prod.fst h
        refine ⟨hok, ?_⟩
        have h1 := srcsW_back he (fun e hx => by have := cer_ent hok hx; omega)
        have h2 := cat_split 10 s []
        rw [cat_lines 10 _ (splitF_ne 10 s []), h1] at h2
        have h3 : (splitF 10 [] s).getLast (splitF_ne 10 s []) = [] := by
          have := hc.1
          rw [List.getLast?_eq_some_getLast (splitF_ne 10 s [])] at this
          exact Option.some.inj this
        rw [h3] at h2; simpa using h2.symm
      · simp at h
  · simp at h
theorem rcS_two (s : List UInt8) : rcS s = ([], false) ∨ ∃ l, rcS s = (l, true) := by
  unfold rcS
  split
  · cases srcsW (splitF 10 [] s).dropLast with
    | none => exact .inl rfl
    | some l =>
      simp only []
      split
      · exact .inr ⟨l, rfl⟩
      · exact .inl rfl
  · exact .inl rfl
theorem rc_same (s : List UInt8) : rcI s = rcS s := by
  rcases rcS_two s with h | ⟨l, h⟩
  · rw [h]
    unfold rcI
    cases he : srcsI (linesF [] s) with
    | none => rfl
    | some l =>
      simp only []
      split
      · rename_i hc
        have := rcS_cer hc.1
        rw [hc.2, h] at this; simp at this
      · rfl
  · rw [h]
    obtain ⟨h1, rfl⟩ := rcS_back h
    unfold rcI
    rw [lines_cer (cer_n h1)]
    simp only [h1, true_and, if_true]
end Go.Proofs.YtddihmpiaemadaaGreatDoor
namespace Go.Proofs.YtddihmpiaemadaaGreatDoor
set_option linter.unusedVariables false
set_option linter.unusedSimpArgs false
open Go.RowKit
section
variable {P : Program} {ops : Array Oper} {md : Region.Mode} {l0 m : Nat}
theorem rows_wide {row : String} {args : Array Value} {w : World} {R : Value → World → Prop} (h : Rows P row args w R) : RowsIn (Fence.wide.inRound l0) m P row args w R := fun c cs _ => by
  obtain ⟨v, w', r, s⟩ := h c cs
  exact ⟨v, w', r, stepsIn_wide.2 s⟩
/-- an operation that is no defer statement, in a round -/
theorem oper_round {o : Oper} {a : Act} {w : World} {K : Act → World → Prop} {Q : Exit → Act → World → Prop} (hd : ∀ c, o.op ≠ .defer c) (h : o.wp P a w K Q) : o.wpIn (Fence.wide.inRound l0) m P a w K Q := by
  refine ⟨fun _ _ => trivial, ?_⟩
  rw [Fence.inRound_round, Oper.semAt_eq _ _ _ hd]
  unfold Oper.wp at h
  generalize (execOp a.eval o).run P w = r at *
  cases r with
  | ok x w' =>
    cases x <;> simp only [Oper.upon, Oper.uponIn] at h ⊢
    all_goals first
      | exact h
      | exact h.elim
      | exact ⟨fun hs => absurd hs (by simp [Fence.wide]), CallsIn.inRound l0 (callsIn_wide.2 h)⟩
      | exact ⟨fun hs => absurd hs (by simp [Fence.wide]), rows_wide h⟩
  | halt x w' => cases x <;> simp only [Oper.upon, Oper.uponIn] at h ⊢ <;> exact h
/-- no defer statement among operations -/
def noDef (l : List Oper) : Bool := l.all fun o => match o.op with
  | .defer _ => false
  | _ => true
end
/-- how a round's body may be left -/
def boxPost {α : Type} (b : Nat) (I Ix : List α → World → Prop) (xs : List α) (W : World) : Exit → Act → World → Prop
  | .normal, _, W' => KeepsOthers W W' ∧ W'.heap[b]? = W.heap[b]? ∧ I xs W'
  | .ret, _, W' => KeepsOthers W W' ∧ Ix xs W'
  | _, _, _ => False
/-- an iterator that yields xs, in their order, and writes the box b between its rounds -/
def SeqBox {α : Type} (n : Nat) (P : Program) (g : Nat) (lb : Array Value) (enc : α → Value) (b : Nat) (xs : List α) (w : World) : Prop :=
  ∀ (l : Nat) (J Jx : List α → World → Prop) (W : World), Below w.heap.size w W → AbidesFrom W.heap.size J → (∀ s A u, J s A → J s (A.setCell ⟨b, 0, none⟩ u)) →
    (∀ pre x W1, J pre W1 → pre ++ [x] <+: xs → YieldAt Fence.wide (n - 1) P l #[enc x] W1 fun e W' => (e = .returned (.bool true) ∧ J (pre ++ [x]) W' ∧ W'.heap[b]? = W1.heap[b]?) ∨ (e = .returned (.bool false) ∧ Jx (pre ++ [x]) W')) →
    J [] W → CallsIn Fence.wide n P g (#[.func (.yield l) #[] #[]] ++ lb) W fun e W' => (∃ v, e = .returned v) ∧ (J xs W' ∨ ∃ pre, pre <+: xs ∧ Jx pre W')
/-- a loop over such an iterator -/
theorem wpIn_rangeBox {α : Type} {P : Program} {n : Nat} {g : Operand} {ps : Array Tmp} {assign body : Code} {Q : Exit → Act → World → Prop} {a : Act} {w : World}
    (h1 : 1 ≤ n) {gf : Nat} {lb : Array Value} (hg : a.eval g = .func (.func gf) #[] lb) (eg : ∀ args w, (callFunc gf args).run P w = .ok (.enter gf args) w)
    {enc : α → Value} {b : Nat} {xs : List α} (hb : b < w.heap.size) (hseq : SeqBox (n - 1) P gf lb enc b xs w) (hps : ps.size = 1)
    (I Ix : List α → World → Prop) (hI : OwnFrom w.heap.size I) (hIx : OwnFrom w.heap.size Ix) (hIb : ∀ s A u, I s A → I s (A.setCell ⟨b, 0, none⟩ u)) (h0 : I [] w) (a₁ : α → Act)
    (hassign : ∀ (l : Nat) (x : α) (W : World) (K : Act → World → Prop), K (a₁ x) W →
      assign.wpIn (Fence.wide.inRound l) (n - 1 - 1) P (Exit.then K (fun _ _ _ => False)) { tmps := (ps.zip #[enc x]).foldl (fun t (p, v) => t.setIfInBounds p v) a.tmps, defers := [] } W)
    (hbody : ∀ (l : Nat) (pre : List α) (x : α) (W : World), I pre W → pre ++ [x] <+: xs → body.wpIn (Fence.wide.inRound l) (n - 1 - 1) P (boxPost b I Ix (pre ++ [x]) W) (a₁ x) W)
    (hdone : ∀ (D : Nat) (W : World), w.heap.size ≤ D → I xs W → W.heap[D]? = some (.deferred (some [])) → Q .normal { a with defers := { target := .collected D, args := #[] } :: a.defers } W)
    (hstop : ∀ (D : Nat) (pre : List α) (W : World), w.heap.size ≤ D → pre <+: xs → Ix pre W → W.heap[D]? = some (.deferred (some [])) → Code.ret.wpIn Fence.wide n P Q { a with defers := { target := .collected D, args := #[] } :: a.defers } W) :
    (Code.rangeFunc g ps assign body).wpIn Fence.wide n P Q a w := by
  refine wpIn_rangeFunc fun fn hfn => ?_
  obtain ⟨rec, hrec⟩ : ∃ rec : LoopState → Option Code → Loop, rec = fun st pe => { state := st, pending := pe, fn, tmps := a.tmps, params := ps, assign, body, defers := w.heap.size } := ⟨_, rfl⟩
  obtain ⟨W1, hW1⟩ : ∃ W1, (w.alloc (.deferred (some []))).alloc (.loop (rec .ready none)) = W1 := ⟨_, rfl⟩
  have hz1 : W1.heap.size = w.heap.size + 2 := by rw [← hW1]; simp
  have hL1 : W1.heap[w.heap.size + 1]? = some (.loop (rec .ready none)) := by
    rw [← hW1]; have := World.alloc_heap_new (w.alloc (.deferred (some []))) (.loop (rec .ready none)); rwa [World.size_alloc] at this
  have hK1 : W1.heap[w.heap.size]? = some (.deferred (some [])) := by
    rw [← hW1]; exact (Below.heap_alloc _ _ _ (by simp)).trans (World.alloc_heap_new w _)
  have hI1 : I [] W1 := by rw [← hW1]; exact hI.alloc _ (hI.alloc _ h0)
  have hb1 : Below w.heap.size w W1 := by
    rw [← hW1]; exact ((Below.refl _ w).alloc (Nat.le_refl _) _).alloc (by simp) _
  refine ⟨w.heap.size + 1, [{ target := .collected w.heap.size, args := #[] }], W1, { target := .fn (.func gf) lb, args := #[.func (.yield (w.heap.size + 1)) #[] #[]] }, W1, gf,
    #[.func (.yield (w.heap.size + 1)) #[] #[]] ++ lb, W1, ?_, ?_, fun _ _ => trivial, ?_, fun _ => h1, ?_⟩
  · rw [← hW1, hrec]; exact run_enterLoop_outer _ _ _ _ _
  · simp only [resolve, hg]
    simp [go_sem]
  · simp [invoke, go_sem, eg]
  have far : ∀ {k : Nat}, w.heap.size ≤ k → ∀ (A : World) (u : Value), (A.setCell ⟨b, 0, none⟩ u).heap[k]? = A.heap[k]? := fun hk A u => Below.heap_setCell A ⟨b, 0, none⟩ u _ (by intro e; have e' : _ = b := e; omega)
  have hnw : ∀ {A : World} {row : Option Nat}, (∀ r, row = some r → W1.heap.size ≤ r ∧ ∃ o : Obj, A.heap[r]? = some o ∧ o.isWalk = true) → (∀ r, row = some r → w.heap.size ≤ r ∧ ∃ o : Obj, A.heap[r]? = some o ∧ o.isCells = false) :=
    fun hr r e => by obtain ⟨hB, o, ho, hw⟩ := hr r e; exact ⟨by omega, o, ho, Obj.not_cells_of_walk hw⟩
  refine (hseq (w.heap.size + 1)
    (fun pre W => I pre W ∧ W.heap[w.heap.size + 1]? = some (.loop (rec .ready none)) ∧ W.heap[w.heap.size]? = some (.deferred (some [])))
    (fun pre W => Ix pre W ∧ W.heap[w.heap.size + 1]? = some (.loop (rec .done (some .ret))) ∧ W.heap[w.heap.size]? = some (.deferred (some [])))
    W1 hb1
    (fun s A B row hs hg' hr => ⟨hI s A B row hs.1 hg' (hnw hr), (grownBy_keeps hg' (fun r e => (hr r e).2) hs.2.1 rfl).trans hs.2.1, (grownBy_keeps hg' (fun r e => (hr r e).2) hs.2.2 rfl).trans hs.2.2⟩)
    (fun s A u hs => ⟨hIb s A u hs.1, (far (by omega) A u).trans hs.2.1, (far (by omega) A u).trans hs.2.2⟩)
    ?_ ⟨hI1, hL1, hK1⟩).mono ?_
  · rintro pre x W ⟨hi, hl, hk⟩ hlen
    have hlt : w.heap.size + 1 < W.heap.size := (Array.getElem?_eq_some_iff.1 hl).1
    have hy := run_yield (P := P) (args := #[enc x]) hl (by rw [hrec]; exact hps.symm)
    rw [hrec] at hy
    refine ⟨fn, _, assign, body, hy, roundIn_of_wpIn hfn (hassign _ x W _ ⟨_, run_beginRound hl (by rw [hrec]), ?_⟩)⟩
    have hl2 : (W.putObj (w.heap.size + 1) (.loop { rec .ready none with state := .busy })).heap[w.heap.size + 1]? = some (.loop { rec .ready none with state := .busy }) := World.putObj_heap_same hlt
    have hk2 : (W.putObj (w.heap.size + 1) (.loop { rec .ready none with state := .busy })).heap[w.heap.size]? = some (.deferred (some [])) := (World.putObj_heap_other (by omega)).trans hk
    have hb2 : (W.putObj (w.heap.size + 1) (.loop { rec .ready none with state := .busy })).heap[b]? = W.heap[b]? := World.putObj_heap_other (by omega)
    refine wpIn_mono (hbody _ pre x _ (hI.putObj _ hi (by omega) hl rfl) hlen) ?_
    have fin : ∀ (jump : Option Code) (W3 : World), KeepsOthers (W.putObj (w.heap.size + 1) (.loop { rec .ready none with state := .busy })) W3 →
        (Instr.endRound (w.heap.size + 1) jump).run P W3 = .ok (.bool jump.isNone) (W3.putObj (w.heap.size + 1) (.loop (rec (if jump.isNone then .ready else .done) jump))) ∧
        W3.heap[w.heap.size + 1]? = some (.loop { rec .ready none with state := .busy }) ∧
        (W3.putObj (w.heap.size + 1) (.loop (rec (if jump.isNone then .ready else .done) jump))).heap[w.heap.size + 1]? = some (.loop (rec (if jump.isNone then .ready else .done) jump)) ∧
        (W3.putObj (w.heap.size + 1) (.loop (rec (if jump.isNone then .ready else .done) jump))).heap[w.heap.size]? = some (.deferred (some [])) := fun jump W3 hk3 => by
      have hl3 := hk3.same _ _ hl2 rfl
      have := run_endRound (P := P) jump hl3
      rw [hrec] at this ⊢
      exact ⟨this, by rw [hrec] at hl3; exact hl3, World.putObj_heap_same (Array.getElem?_eq_some_iff.1 hl3).1, (World.putObj_heap_other (by omega)).trans (hk3.same _ _ hk2 rfl)⟩
    rintro e a3 W3 hp
    cases e with
    | normal =>
      obtain ⟨hk3, hkb, hi3⟩ := hp
      obtain ⟨hr, hl3, hl4, hk4⟩ := fin none W3 hk3
      exact ⟨_, _, hr, .inl ⟨rfl, ⟨hI.putObj _ hi3 (by omega) hl3 rfl, hl4, hk4⟩, (World.putObj_heap_other (by omega)).trans (hkb.trans hb2)⟩⟩
    | ret =>
      obtain ⟨hk3, hi3⟩ := hp
      obtain ⟨hr, hl3, hl4, hk4⟩ := fin (some .ret) W3 hk3
      exact ⟨_, _, hr, .inr ⟨rfl, hIx.putObj _ hi3 (by omega) hl3 rfl, hl4, hk4⟩⟩
    | exit id => exact hp.elim
    | goto t => exact hp.elim
    | panic ch => exact hp.elim
    | outgrown => exact hp.elim
  · rintro e W2 ⟨⟨v, rfl⟩, (⟨hi, hl, hk⟩ | ⟨pre, hSp, hi, hl, hk⟩)⟩
    · exact ⟨none, _, by have := run_endLoop (P := P) hl (by rw [hrec]; simp); rw [hrec] at this; exact this, hdone _ _ (Nat.le_refl _) (hI.putObj _ hi (by omega) hl rfl) ((World.putObj_heap_other (by omega)).trans hk)⟩
    · exact ⟨some .ret, _, by have := run_endLoop (P := P) hl (by rw [hrec]; simp); rw [hrec] at this; exact this, hstop _ pre _ (Nat.le_refl _) hSp (hIx.putObj _ hi (by omega) hl rfl) ((World.putObj_heap_other (by omega)).trans hk)⟩
end Go.Proofs.YtddihmpiaemadaaGreatDoor
namespace Go.Proofs.YtddihmpiaemadaaGreatDoor
set_option linter.unusedVariables false
set_option linter.unusedSimpArgs false
open Go.RowKit
/-- where it comes to an end, the world is as it was -/
def SameW {α : Type} (x : Sem α) : Prop := ∀ (P : Program) (w : World) (a : α) (w' : World), x.run P w = .ok a w' → w' = w
/-- never comes to an end -/
def NeverW {α : Type} (x : Sem α) : Prop := ∀ (P : Program) (w : World) (a : α) (w' : World), x.run P w ≠ .ok a w'
theorem NeverW.same {α : Type} {x : Sem α} (h : NeverW x) : SameW x := fun P w a w' e => absurd e (h P w a w')
/-- where it comes to an end it has laid one block -/
def NewW {α : Type} (x : Sem α) : Prop := ∀ (P : Program) (w : World) (a : α) (w' : World), x.run P w = .ok a w' → ∃ c, w' = w.alloc c
theorem NeverW.new {α : Type} {x : Sem α} (h : NeverW x) : NewW x := fun P w a w' e => absurd e (h P w a w')
def calmB (o : Oper) : Bool := match o.op with
  | .move _ | .load _ _ | .indexAddr _ _ _ | .build _ _ | .buildSlice _ _ _ => true
  | _ => false
section
variable {P : Program} {ops : Array Oper} {md : Region.Mode} {Q : Exit → Act → World → Prop}
/-- yields v at each world of a class -/
def YieldsC (P : Program) (ops : Array Oper) (S : World → Prop) (o : Oper) (v : Value) (a : Act) : Prop :=
  Region.wanted o (yielded ops a.tmps) = true ∧ ∀ w, S w → (execOp a.eval o).run P w = .ok (.value v) w
/-- whatever need not wait for i is apart from it, and calm -/
def freeC (md : Region.Mode) (ops : Array Oper) (i : Nat) : Bool :=
  match ops[i]? with
  | none => false
  | some oi => (List.range ops.size).all fun j => j == i || match ops[j]? with
      | some oj => oj.after.any (fun e => Region.binds md e && e.on == i) || (oi.apart ops oj && calmB oj)
      | none => true
/-- the n-th operation waits for the i-th too -/
def addE (i : Nat) : Nat → List Oper → List Oper
  | _, [] => []
  | 0, o :: l => { o with after := o.after.push { on := i, ground := .data } } :: l
  | n + 1, o :: l => o :: addE i n l
def noGuard (l : List Oper) : Bool := l.all fun o => o.guard.isNone
def loadTailB (l : List Oper) (n : Nat) : Bool :=
  Region.noSelect l.toArray && Region.noSelect (addE 0 n l).toArray && decide (0 < n) && decide (n < l.length) && Region.sinkB .any (addE 0 n l).toArray n && Region.chainB .any (addE 0 n l).toArray n &&
  Region.lexHead .any (addE 0 n l).toArray (l.length - n) (n - 1) 1 ((Array.replicate l.length false).setIfInBounds 0 true) && freeC .any l.toArray 0 && (Region.ready .any l.toArray (Array.replicate l.length false)).contains 0 &&
  (Region.ready .any (addE 0 n l).toArray (Array.replicate l.length false)).contains 0 && noGuard l
end
end Go.Proofs.YtddihmpiaemadaaGreatDoor
namespace Go.Proofs.YtddihmpiaemadaaGreatDoor
set_option linter.unusedVariables false
set_option linter.unusedSimpArgs false
open Go.RowKit
end Go.Proofs.YtddihmpiaemadaaGreatDoor
