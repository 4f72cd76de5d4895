/- A ledger read from its text: both ways of reading are one. Plain laws. -/
import Derived.Test.YtkpjjohanbiagaaDoorSplP
import Derived.Test.YtkpjjohanbiagaaDoorLedP
namespace Go.Proofs.YtkpjjohanbiagaaDoor
set_option linter.unusedVariables false
set_option linter.unusedSimpArgs false
open Go.RowKit
def entW (ws : List (List UInt8)) : Option Ent := match ws with
  | [a, b, c, d] => some ⟨strB a, numS b, numS c, numS d⟩
  | _ => none
def entsW : List (List UInt8) → Option (List Ent)
  | [] => some []
  | q :: r => (entW (splitF 32 [] q)).bind fun e => (entsW r).map fun l => e :: l
/-- the reference's reading -/
def rdS (s : List UInt8) : List Ent × Bool :=
  if (splitF 10 [] s).getLast? = some [] ∧ (splitF 10 [] s).length ≤ 31 then (match entsW (splitF 10 [] s).dropLast with
    | some l => if ledgerOk l then (l, true) else ([], false)
    | none => ([], false)) else ([], false)
def entI (q : List UInt8) : Option Ent := (numsD (splitF 32 [] (Lib.cut (Lib.trimSuffix q [10]) [32]).2.1)).bind fun ns => match ns with
  | [b, a, c] => some ⟨strB (Lib.cut (Lib.trimSuffix q [10]) [32]).1, b, a, c⟩
  | _ => none
def entsI : List (List UInt8) → Option (List Ent)
  | [] => some []
  | q :: r => (entI q).bind fun e => (entsI r).map fun l => e :: l
/-- the program's reading -/
def rdI (s : List UInt8) : List Ent × Bool := match entsI (linesF [] s) with
  | none => ([], false)
  | some l => if ledgerOk l = true ∧ ledT l = s then (l, true) else ([], false)
/-- an entry as its text bears it -/
structure EntN (e : Ent) : Prop where
  v10 : (10 : UInt8) ∉ e.verb.data.toList
  v32 : (32 : UInt8) ∉ e.verb.data.toList
  b : 0 ≤ e.before ∧ e.before ≤ 65535
  a : 0 ≤ e.after ∧ e.after ≤ 65535
  c : 0 ≤ e.chain ∧ e.chain ≤ 65535
def lineT (e : Ent) : List UInt8 := e.verb.data.toList ++ 32 :: (Lib.itoa e.before ++ 32 :: (Lib.itoa e.after ++ 32 :: Lib.itoa e.chain))
theorem entT_line (e : Ent) : entT e = lineT e ++ [10] := by
  unfold entT lineT
  rw [join3]; simp
theorem itoa_dec {n : Int} (h : 0 ≤ n) : ∃ m : Nat, n = m ∧ Lib.itoa n = Lib.decDigits m := by
  obtain ⟨m, rfl⟩ := Int.eq_ofNat_of_zero_le h
  exact ⟨m, rfl, itoa_nat m⟩
theorem dec_free (c : UInt8) (h : c.toNat < 48) (n : Nat) : c ∉ Lib.decDigits n := fun hm => by
  have := dec_mem n c hm; omega
theorem itoa_free {n : Int} (h : 0 ≤ n) (c : UInt8) (hc : c.toNat < 48) : c ∉ Lib.itoa n := by
  obtain ⟨m, _, e⟩ := itoa_dec h
  rw [e]; exact dec_free c hc m
theorem c10 : (10 : UInt8).toNat < 48 := by decide
theorem c32 : (32 : UInt8).toNat < 48 := by decide
theorem line_10 {e : Ent} (h : EntN e) : (10 : UInt8) ∉ lineT e := by
  unfold lineT
  simp only [List.mem_append, List.mem_cons, not_or]
  exact ⟨h.v10, by decide, itoa_free h.b.1 _ c10, by decide, itoa_free h.a.1 _ c10, by decide, itoa_free h.c.1 _ c10⟩
theorem line_words {e : Ent} (h : EntN e) : splitF 32 [] (lineT e) = [e.verb.data.toList, Lib.itoa e.before, Lib.itoa e.after, Lib.itoa e.chain] := by
  unfold lineT
  rw [splitF_hit h.v32, splitF_hit (itoa_free h.b.1 _ c32), splitF_hit (itoa_free h.a.1 _ c32), splitF_no (itoa_free h.c.1 _ c32)]
  rfl
theorem numS_itoa {n : Int} (h : 0 ≤ n ∧ n ≤ 65535) : numS (Lib.itoa n) = n := by
  obtain ⟨m, rfl, e⟩ := itoa_dec h.1
  rw [e, numS_dec (by omega)]
theorem rdD_itoa {n : Int} (h : 0 ≤ n ∧ n ≤ 65535) : rdD (Lib.itoa n) = some n := by
  obtain ⟨m, rfl, e⟩ := itoa_dec h.1
  rw [e, rdD_dec (by omega)]
theorem itoa_numS {l : List UInt8} (h : 0 ≤ numS l) : Lib.itoa (numS l) = l := by
  obtain ⟨m, hm⟩ := Int.eq_ofNat_of_zero_le h
  rw [hm]
  rw [itoa_nat]; exact (numS_some hm).symm
theorem ent_eta (e : Ent) : (⟨strB e.verb.data.toList, e.before, e.after, e.chain⟩ : Ent) = e := by
  rw [strB_data]
theorem entW_line {e : Ent} (h : EntN e) : entW (splitF 32 [] (lineT e)) = some e := by
  rw [line_words h, entW, numS_itoa h.b, numS_itoa h.a, numS_itoa h.c, ent_eta]
theorem entI_line {e : Ent} (h : EntN e) : entI (lineT e ++ [10]) = some e := by
  unfold entI
  rw [trim_line, lineT, cut_word h.v32]
  show (numsD (splitF 32 [] (Lib.itoa e.before ++ 32 :: (Lib.itoa e.after ++ 32 :: Lib.itoa e.chain)))).bind _ = _
  rw [splitF_hit (itoa_free h.b.1 _ c32), splitF_hit (itoa_free h.a.1 _ c32), splitF_no (itoa_free h.c.1 _ c32)]
  simp only [List.nil_append]
  rw [numsD_cons, rdD_itoa h.b, Option.bind_some, numsD_cons, rdD_itoa h.a, Option.bind_some, numsD_cons, rdD_itoa h.c, Option.bind_some, numsD]
  simp only [Option.map_some, Option.bind_some]
  rw [ent_eta]
theorem ledT_cons (e : Ent) (l : List Ent) : ledT (e :: l) = lineT e ++ 10 :: ledT l := by
  unfold ledT
  rw [List.map_cons, List.flatten_cons, entT_line]; simp
theorem lines_led {l : List Ent} (h : ∀ e ∈ l, EntN e) : entsI (linesF [] (ledT l)) = some l := by
  induction l with
  | nil => simp [ledT, linesF, entsI]
  | cons e l ih =>
    have he := h e (by simp)
    rw [ledT_cons, linesF_hit (line_10 he), entsI, List.nil_append, entI_line he, Option.bind_some, ih (fun x hx => h x (by simp [hx]))]
    rfl
theorem split_led {l : List Ent} (h : ∀ e ∈ l, EntN e) : splitF 10 [] (ledT l) = l.map lineT ++ [[]] := by
  induction l with
  | nil => simp [ledT, splitF]
  | cons e l ih =>
    rw [ledT_cons, splitF_hit (line_10 (h e (by simp))), ih (fun x hx => h x (by simp [hx]))]
    simp
theorem entsW_led {l : List Ent} (h : ∀ e ∈ l, EntN e) : entsW (l.map lineT) = some l := by
  induction l with
  | nil => rfl
  | cons e l ih =>
    rw [List.map_cons, entsW, entW_line (h e (by simp)), Option.bind_some, ih (fun x hx => h x (by simp [hx]))]
    rfl
theorem verb_free {v : List UInt8} (h : verbOk v = true) (c : UInt8) (hc : verbCh c = false) : c ∉ v := fun hm => by
  unfold verbOk at h
  simp only [Bool.and_eq_true] at h
  have := List.all_eq_true.1 h.1.1 c hm
  rw [hc] at this; cases this
theorem led_n {l : List Ent} (h : ledgerOk l = true) : ∀ e ∈ l, EntN e := fun e he => by
  obtain ⟨_, h2, h3, h4⟩ := led_ent h he
  have hv : verbOk e.verb.data.toList = true := by
    unfold ledgerOk at h
    obtain ⟨j, la, pr, hk⟩ := (led_all (of_decide_eq_true h)).1 e he
    unfold entOk at hk
    simp only [Bool.and_eq_true] at hk
    exact hk.1.1.1.1.2
  exact ⟨verb_free hv _ (by decide), verb_free hv _ (by decide), h2, h3, h4⟩
theorem rdS_led {l : List Ent} (h : ledgerOk l = true) : rdS (ledT l) = (l, true) := by
  unfold rdS
  have hn := led_n h
  have hl := led_len h
  rw [split_led hn, if_pos ⟨by simp, by simp; omega⟩, List.dropLast_concat, entsW_led hn]
  simp only [h, if_true]
theorem entsW_back {q : List (List UInt8)} : ∀ {l : List Ent}, entsW q = some l → (∀ e ∈ l, 0 ≤ e.before ∧ 0 ≤ e.after ∧ 0 ≤ e.chain) → (q.map fun p => p ++ [10]).flatten = ledT l := by
  induction q with
  | nil => intro l h _; obtain rfl : l = [] := by simpa [entsW] using h.symm
           rfl
  | cons p q ih =>
    intro l h hb
    rw [entsW] at h
    obtain ⟨e, he, h⟩ := Option.bind_eq_some_iff.1 h
    obtain ⟨r, hr, rfl⟩ := Option.map_eq_some_iff.1 h
    have h1 := ih hr (fun x hx => hb x (by simp [hx]))
    have hbe := hb e (by simp)
    have hc := cat_split 32 p []
    rw [List.nil_append] at hc
    generalize splitF 32 [] p = ws at *
    unfold entW at he
    split at he
    · rename_i a b c d
      obtain rfl := Option.some.inj he
      simp only [catF] at hc
      rw [List.map_cons, List.flatten_cons, h1, ledT_cons]
      unfold lineT
      simp only [strB_list, itoa_numS hbe.1, itoa_numS hbe.2.1, itoa_numS hbe.2.2]
      rw [hc]; simp
    · cases he
theorem rdS_back {s : List UInt8} {l : List Ent} (h : rdS s = (l, true)) : ledgerOk l = true ∧ s = ledT l := by
  unfold rdS at h
  split at h
  · rename_i hc
    cases he : entsW (splitF 10 [] s).dropLast with
    | none => rw [he] at h; simp at h
    | some l' =>
      rw [he] at h
      simp only [] at h
      split at h
      · rename_i hok
        obtain rfl : l' = l := congrArg Prod.fst h
        refine ⟨hok, ?_⟩
        have h1 := entsW_back he (fun e hx => by have := led_ent hok hx; omega)
        have h2 := cat_split 10 s []
        rw [cat_lines 10 _ (splitF_ne 10 s []), h1] at h2
        have h3 : (splitF 10 [] s).getLast (splitF_ne 10 s []) = [] := by
          have := hc.1
          rw [List.getLast?_eq_some_getLast (splitF_ne 10 s [])] at this
          exact Option.some.inj this
        rw [h3] at h2; simpa using h2.symm
      · simp at h
  · simp at h
theorem rdS_two (s : List UInt8) : rdS s = ([], false) ∨ ∃ l, rdS s = (l, true) := by
  unfold rdS
  split
  · cases entsW (splitF 10 [] s).dropLast with
    | none => exact .inl rfl
    | some l =>
      simp only []
      split
      · exact .inr ⟨l, rfl⟩
      · exact .inl rfl
  · exact .inl rfl
theorem rd_same (s : List UInt8) : rdI s = rdS s := by
  rcases rdS_two s with h | ⟨l, h⟩
  · rw [h]
    unfold rdI
    cases he : entsI (linesF [] s) with
    | none => rfl
    | some l =>
      simp only []
      split
      · rename_i hc
        have := rdS_led hc.1
        rw [hc.2, h] at this; simp at this
      · rfl
  · rw [h]
    obtain ⟨h1, rfl⟩ := rdS_back h
    unfold rdI
    rw [lines_led (led_n h1)]
    simp only [h1, true_and, if_true]
theorem entR_one (b : Ent) : ∀ u ∈ b.cells, u.oneCell' = true := by simp [Ent.cells, Value.oneCell']
theorem cellsR {w : World} {n : Nat} {s : ByteArray} {b a c : Int} {t : TypeId} (hn : n = w.heap.size) : ∀ j u, (Ent.cells ⟨s, b, a, c⟩)[j]? = some u → (w.alloc (.cells #[.string s, .int .i64 b, .int .i64 a, .int .i64 c] t)).cell? ⟨n, j, none⟩ = some u := by
  intro j u hu
  rw [World.cell?_alloc_at _ _ _ _ hn]
  simpa [Ent.cells] using hu
theorem stopR {p : Prop} (h : True → p) : p := h trivial
end Go.Proofs.YtkpjjohanbiagaaDoor
