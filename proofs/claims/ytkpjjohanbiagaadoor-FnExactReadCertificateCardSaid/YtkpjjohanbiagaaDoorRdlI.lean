/- ReadLedger, impl: the walk. -/
import Derived.Test.YtkpjjohanbiagaaDoorRdlP
import Derived.Test.YtkpjjohanbiagaaDoorRndC
import Derived.Test.YtkpjjohanbiagaaDoorRddI
import Derived.Test.YtkpjjohanbiagaaDoorLinB
import Derived.Test.YtkpjjohanbiagaaDoorLedJ
import Derived.Test.YtkpjjohanbiagaaDoorHInt64
namespace Go.Proofs.YtkpjjohanbiagaaDoor
set_option linter.unusedVariables false
set_option linter.unusedSimpArgs false
open Go.RowKit Go.Shelf
attribute [local go_sem] Oper.semAt_some
theorem entsI_snoc (p : List (List UInt8)) (q : List UInt8) : entsI (p ++ [q]) = (entsI p).bind fun l => (entI q).map fun e => l ++ [e] := by
  induction p with
  | nil => simp only [List.nil_append, entsI, Option.bind_some, Option.map_some]; cases entI q <;> rfl
  | cons a p ih =>
    rw [List.cons_append, entsI, ih, entsI]
    cases entI a with
    | none => rfl
    | some e =>
      simp only [Option.bind_some]
      cases entsI p with
      | none => rfl
      | some l =>
        simp only [Option.bind_some, Option.map_some]
        cases entI q <;> rfl
theorem entsI_none {p : List (List UInt8)} (h : entsI p = none) : ∀ r, entsI (p ++ r) = none := by
  induction p with
  | nil => cases h
  | cons a p ih =>
    intro r
    rw [List.cons_append, entsI]
    rw [entsI] at h
    cases ha : entI a with
    | none => rfl
    | some e =>
      rw [ha, Option.bind_some] at h
      rw [Option.bind_some, ih (by simpa using h)]; rfl
def ents (p : List (List UInt8)) : List Ent := (entsI p).getD []
/-- between two rounds -/
def RdI (w : World) (pre : List (List UInt8)) (W : World) : Prop :=
  ((∃ v, Boxed W (w.heap.size + 1 + 1) 30 v ∧ W.ownsRow (w.heap.size + 4) 48 4 v (ents pre).length (flat Ent.cells (ents pre)) ∧ True) ∧ entsI pre = some (ents pre) ∧ Boxed W w.heap.size 30 (.slice none 0 0) ∧ Boxed W (w.heap.size + 1) 4 (.bool false)) ∧ Below w.heap.size w W ∧ w.heap.size + 4 ≤ W.heap.size
theorem ownFrom_size {β : Type} (B n : Nat) : OwnFrom B (fun (_ : β) W => n ≤ W.heap.size) := fun _ _ _ _ hs hg _ => Nat.le_trans hs hg.size
def RdX (w : World) (pre : List (List UInt8)) (W : World) : Prop :=
  (entsI pre = none ∧ Boxed W w.heap.size 30 (.slice none 0 0) ∧ Boxed W (w.heap.size + 1) 4 (.bool false)) ∧ Below w.heap.size w W
theorem boxed_kept {W W' : World} {row : Option Nat} {B : Nat} {t : TypeId} {v : Value} (h : Boxed W B t v) (hg : W.grownBy W' row) (hr : ∀ r, row = some r → ∃ o : Obj, W.heap[r]? = some o ∧ o.isCells = false) : Boxed W' B t v :=
  h.kept hg (fun e => by obtain ⟨o, ho, hc⟩ := hr B e.symm; rw [show W.heap[B]? = _ from h] at ho; cases ho; cases hc)
theorem rdI_own (w : World) : OwnFrom (w.heap.size + 4) (RdI w) :=
  OwnFrom.and (Own.from (fun s A B row hs hg hr => ⟨holdsRow_own (w.heap.size + 4) (w.heap.size + 1 + 1) 30 48 4 (fun p => (ents p).length) (fun p => flat Ent.cells (ents p)) (fun _ _ => True) s A B row hs.1 hg hr, hs.2.1, boxed_kept hs.2.2.1 hg hr, boxed_kept hs.2.2.2 hg hr⟩) _) (OwnFrom.and (ownFrom_below (Nat.le_refl _) (by omega)) (ownFrom_size _ _))
theorem rdX_own (w : World) : OwnFrom (w.heap.size + 4) (RdX w) :=
  OwnFrom.and (Own.from (fun s A B row hs hg hr => ⟨hs.1, boxed_kept hs.2.1 hg hr, boxed_kept hs.2.2 hg hr⟩) _) (ownFrom_below (Nat.le_refl _) (by omega))
theorem boxed_far {W : World} {B b : Nat} {t : TypeId} {v : Value} (h : Boxed W B t v) (hne : B ≠ b) (u : Value) : Boxed (W.setCell ⟨b, 0, none⟩ u) B t v := h.kept (grownBy_setCell' W b u) (by intro e; injection e with e; exact hne e)
theorem rdI_box (w : World) : ∀ s A u, RdI w s A → RdI w s (A.setCell ⟨w.heap.size + 1 + 1 + 1, 0, none⟩ u) := by
  rintro s A u ⟨⟨⟨v, h1, h2, _⟩, h3, h4, h5⟩, h6, h7⟩
  refine ⟨⟨⟨v, boxed_far h1 (by omega) u, h2.kept (grownBy_setCell' A _ u) ?_, trivial⟩, h3, boxed_far h4 (by omega) u, boxed_far h5 (by omega) u⟩, h6.setCell (p := ⟨w.heap.size + 1 + 1 + 1, 0, none⟩) (by show w.heap.size ≤ w.heap.size + 1 + 1 + 1; omega) u, by rw [World.size_setCell]; exact h7⟩
  cases e : v.ownBlock with
  | none => exact .inl rfl
  | some q => exact .inr (by intro e2; injection e2 with e2; have := (h2.lt q e).1; omega)
theorem keeps_below {W W' : World} (h : Below W.heap.size W W') : KeepsOthers W W' := ⟨h.size, fun k o hk _ => (h.block k (Array.getElem?_eq_some_iff.1 hk).1).trans hk⟩
theorem cut_len (l : List UInt8) : (Lib.cut l [32]).1.length ≤ l.length ∧ (Lib.cut l [32]).2.1.length ≤ l.length := by
  unfold Lib.cut
  split
  · exact ⟨by simp; exact Nat.min_le_right _ _, by simp⟩
  · simp
theorem trim_len (l : List UInt8) : (Lib.trimSuffix l [10]).length ≤ l.length := by
  unfold Lib.trimSuffix
  split
  · simp
  · exact Nat.le_refl _
def pickE (v : List UInt8) : List Int → Option Ent
  | [b, a, c] => some ⟨strB v, b, a, c⟩
  | _ => none
theorem entI_pick (q : List UInt8) : entI q = (numsD (splitF 32 [] (Lib.cut (Lib.trimSuffix q [10]) [32]).2.1)).bind (pickE (Lib.cut (Lib.trimSuffix q [10]) [32]).1) := by
  unfold entI
  rfl
theorem pickE_no {v : List UInt8} {l : List Int} (h : l.length ≠ 3) : pickE v l = none := by
  unfold pickE
  split
  · simp at h
  · rfl
theorem entI_verb {q : List UInt8} {e : Ent} (h : entI q = some e) : e.verb.size ≤ q.length := by
  rw [entI_pick] at h
  obtain ⟨ns, _, h⟩ := Option.bind_eq_some_iff.1 h
  unfold pickE at h
  split at h
  · obtain rfl := Option.some.inj h
    show (strB _).size ≤ _
    rw [strB_size]
    exact Nat.le_trans (cut_len _).1 (trim_len q)
  · cases h
theorem entsI_len {p : List (List UInt8)} : ∀ {l : List Ent}, entsI p = some l → l.length = p.length ∧ ∀ e ∈ l, ∃ q ∈ p, e.verb.size ≤ q.length := by
  induction p with
  | nil => intro l h; obtain rfl : l = [] := by simpa [entsI] using h.symm
           simp
  | cons q p ih =>
    intro l h
    rw [entsI] at h
    obtain ⟨e, he, h⟩ := Option.bind_eq_some_iff.1 h
    obtain ⟨r, hr, rfl⟩ := Option.map_eq_some_iff.1 h
    obtain ⟨h1, h2⟩ := ih hr
    refine ⟨by simp [h1], fun x hx => ?_⟩
    rcases List.mem_cons.1 hx with rfl | hx
    · exact ⟨q, by simp, entI_verb he⟩
    · obtain ⟨q', h3, h4⟩ := h2 x hx
      exact ⟨q', by simp [h3], h4⟩
theorem rdI_none {s : List UInt8} (h : entsI (linesF [] s) = none) : rdI s = ([], false) := by unfold rdI; rw [h]
theorem rdI_some {s : List UInt8} {l : List Ent} (h : entsI (linesF [] s) = some l) (h1 : ledgerOk l = true) (h2 : ledT l = s) : rdI s = (l, true) := by
  unfold rdI; rw [h]; simp only []; rw [if_pos ⟨h1, h2⟩]
theorem rdI_bad {s : List UInt8} {l : List Ent} (h : entsI (linesF [] s) = some l) (h1 : ledgerOk l = false ∨ ¬ ledT l = s) : rdI s = ([], false) := by
  unfold rdI; rw [h]; simp only []
  rw [if_neg]
  rintro ⟨a, b⟩
  rcases h1 with h1 | h1
  · rw [h1] at a; cases a
  · exact h1 b
theorem ent_news {w : World} {g : Nat} {e : Ent} (h : w.heap[g]? = some (.cells #[.string e.verb, .int .i64 e.before, .int .i64 e.after, .int .i64 e.chain] 48 (0, 0))) : ∀ j u, (Ent.cells e)[j]? = some u → w.cell? ⟨g, j, none⟩ = some u := by
  intro j u hu
  simp only [World.cell?, h, Option.bind_some]
  have hu' : [.string e.verb, .int .i64 e.before, .int .i64 e.after, .int .i64 e.chain][j]? = some u := hu
  rw [← hu']; simp
theorem rdl_ret {w W : World} {s : ByteArray} {D : Nat} {tm : Array Value} {v : Value} {b : Bool} (h2 : tm[2]? = some (.pointer (some ⟨w.heap.size, 0, none⟩))) (h3 : tm[3]? = some (.pointer (some ⟨w.heap.size + 1, 0, none⟩)))
    (hD : w.heap.size ≤ D) (hK : W.heap[D]? = some (.deferred (some []))) (x0 : Boxed W w.heap.size 30 v) (x1 : Boxed W (w.heap.size + 1) 4 (.bool b)) (hb : b = (rdI s.data.toList).2)
    (ho : EntL w.heap.size W v (rdI s.data.toList).1) (hB : Below w.heap.size w W) :
    bodyPostM Fence.wide 6 Tryd.prog Tryd.f12 (fun e w' => ∃ v, e = .returned (.tuple #[v, .bool (rdI s.data.toList).2]) ∧ EntL w.heap.size w' v (rdI s.data.toList).1 ∧ Below w.heap.size w w')
      Exit.ret { tmps := tm, defers := [{ target := .collected D, args := #[] }] } W := by
  refine ⟨by simp, .inl ⟨_, _, rfl, run_takeDeferred hK, ?_⟩⟩
  have hc0 := cell_kept x0.cell (grownBy_putObj' _ D (.deferred none)) (fun r e => by cases e; exact ⟨_, hK, rfl⟩)
  have hc1 := cell_kept x1.cell (grownBy_putObj' _ D (.deferred none)) (fun r e => by cases e; exact ⟨_, hK, rfl⟩)
  refine ⟨.tuple #[v, .bool b], ?_, v, by rw [hb], ?_, hB.trans (belowK_b (w := w) (Nat.le_refl _) W D _ _ hD hK rfl rfl)⟩
  · simp [results, Tryd.f12, go_sem, Act.eval, h2, h3, hc0, hc1]
  · exact ownsRow_putObj ho _ hK rfl
theorem rdl_end {w W : World} {s : ByteArray} {D : Nat} {tm : Array Value} {v v0 : Value} {b b0 : Bool} (h2 : tm[2]? = some (.pointer (some ⟨w.heap.size, 0, none⟩))) (h3 : tm[3]? = some (.pointer (some ⟨w.heap.size + 1, 0, none⟩)))
    (hD : w.heap.size + 4 ≤ D) (hK : W.heap[D]? = some (.deferred (some []))) (y0 : Boxed W w.heap.size 30 v0) (y1 : Boxed W (w.heap.size + 1) 4 (.bool b0)) (hb : b = (rdI s.data.toList).2)
    (ho : EntL (w.heap.size + 4) W v (rdI s.data.toList).1) (hB : Below w.heap.size w W) :
    bodyPostM Fence.wide 6 Tryd.prog Tryd.f12 (fun e w' => ∃ v, e = .returned (.tuple #[v, .bool (rdI s.data.toList).2]) ∧ EntL w.heap.size w' v (rdI s.data.toList).1 ∧ Below w.heap.size w w')
      Exit.ret { tmps := tm, defers := [{ target := .collected D, args := #[] }] } ((W.setCell ⟨w.heap.size, 0, none⟩ v).setCell ⟨w.heap.size + 1, 0, none⟩ (.bool b)) := by
  refine rdl_ret h2 h3 (by omega) ?_ (boxed_far (Boxed.set _ y0) (by omega) _) (Boxed.set _ (boxed_far y1 (by omega) _)) hb ?_ ((hB.setCell (p := ⟨w.heap.size, 0, none⟩) (Nat.le_refl _) _).setCell (p := ⟨w.heap.size + 1, 0, none⟩) (Nat.le_succ _) _)
  · rw [Below.heap_setCell _ _ _ _ (by intro e; simp at e; omega), Below.heap_setCell _ _ _ _ (by intro e; simp at e; omega)]; exact hK
  · refine OwnL.base ?_ (Nat.le_add_right _ 4)
    have far : ∀ k, k < w.heap.size + 4 → v.ownBlock = none ∨ v.ownBlock ≠ some k := fun k hk => by
      cases e : v.ownBlock with
      | none => exact .inl rfl
      | some q => exact .inr (by intro e6; injection e6 with e6; have := (World.ownsRow.lt ho q e).1; omega)
    exact OwnL.kept (OwnL.kept ho (grownBy_setCell' W _ _) (far _ (by omega))) (grownBy_setCell' _ _ _) (far _ (by omega))
set_option maxRecDepth 100000 in
set_option maxHeartbeats 4000000 in
theorem rdl_i (s : ByteArray) (w : World) (hs : s.size ≤ 1048576) (env : EnvR w) :
    Calls Tryd.prog 12 #[.string s] w fun e w' => ∃ v, e = .returned (.tuple #[v, .bool (rdI s.data.toList).2]) ∧ EntL w.heap.size w' v (rdI s.data.toList).1 ∧ Below w.heap.size w w' := by
  have hmx : Tryd.prog.follows .mixedOrders = true := by kernel_rfl
  have hsl : s.data.toList.length ≤ 1048576 := by rw [data_len]; exact hs
  have HENV := Lib.hid (fun W (hb : Below w.heap.size w W) => env.below hb)
  obtain ⟨i0, hi, hj0, hj1, hj2⟩ := info_parts Ent.info
  refine (callsIn_wide (n := 6)).1 ?_
  refine callsIn_of_wp_marks Tryd.func12 rfl trivial ?_ rfl
  simp only [Tryd.ntmps12, List.size_toArray, List.length_cons, List.length_nil, Nat.reduceAdd, Nat.reduceSub, Array.replicate_succ, Array.replicate_zero, List.push_toArray, List.append_toArray, List.nil_append, List.cons_append]
  gi_wp2_with (refine ⟨trivial, ?_⟩; gi_at_call 28; refine (callsIn_wide.2 (lines_call s _)).mono ?_; rintro e w' ⟨rfl, rfl⟩)
  obtain ⟨W0, hW0⟩ : ∃ W0, ((((w.alloc (.cells #[.slice none 0 0] 30)).alloc (.cells #[.bool false] 4)).alloc (.cells #[.slice none 0 0] 30)).alloc (.cells #[.string s] 9)) = W0 := ⟨_, rfl⟩
  have hz0 : W0.heap.size = w.heap.size + 4 := by rw [← hW0]; simp
  have hB0 : Below w.heap.size w W0 := by rw [← hW0]; exact Below.alloc (Below.alloc (Below.alloc (Below.alloc (Below.refl _ _) (Nat.le_refl _) _) (by simp) _) (by simp; omega) _) (by simp; omega) _
  have hI0 : RdI w [] W0 := by
    have x1 : Boxed (w.alloc (.cells #[.slice none 0 0] 30)) w.heap.size 30 (.slice none 0 0) := Boxed.new w _ _
    have x2 := Boxed.new (w.alloc (.cells #[.slice none 0 0] 30)) 4 (.bool false)
    have x3 := Boxed.new ((w.alloc (.cells #[.slice none 0 0] 30)).alloc (.cells #[.bool false] 4)) 30 (.slice none 0 0)
    simp only [World.size_alloc] at x2 x3
    refine ⟨⟨⟨.slice none 0 0, by rw [← hW0]; exact x3.alloc _, World.ownsRow_nil _ _ _ _, trivial⟩, rfl, by rw [← hW0]; exact ((x1.alloc _).alloc _).alloc _, by rw [← hW0]; exact (x2.alloc _).alloc _⟩, hB0, by omega⟩
  have hc0 : W0.cell? ⟨w.heap.size + 1 + 1 + 1, 0, none⟩ = some (.string s) ∧ W0.frozen? ⟨w.heap.size + 1 + 1 + 1, 0, none⟩ = false := by
    have x4 := Boxed.new (((w.alloc (.cells #[.slice none 0 0] 30)).alloc (.cells #[.bool false] 4)).alloc (.cells #[.slice none 0 0] 30)) 9 (.string s)
    simp only [World.size_alloc] at x4
    rw [hW0] at x4
    exact ⟨x4.cell, x4.frozen⟩
  rw [hW0]
  clear hW0
  have hseq := lines_seq 5 (w.heap.size + 1 + 1 + 1) s.data.toList W0 (by omega) hsl (by rw [strB_data]; exact hc0.1) hc0.2
  refine wpIn_rangeBox (n := 6) (by omega) (gf := 57) (lb := #[.pointer (some ⟨w.heap.size + 1 + 1 + 1, 0, none⟩)]) rfl (enters_of Tryd.func57 (by kernel_rfl) rfl) (by omega) hseq rfl
    (RdI w) (RdX w) (by rw [hz0]; exact rdI_own w) (by rw [hz0]; exact rdX_own w) (rdI_box w) hI0
    (fun x => { tmps := #[.string s, undef, .pointer (some ⟨w.heap.size, 0, none⟩), .pointer (some ⟨w.heap.size + 1, 0, none⟩), .pointer (some ⟨w.heap.size + 1 + 1, 0, none⟩), .string (strB x), undef, undef, undef, undef, undef, .string s, .func (.func 57) #[] #[.pointer (some ⟨w.heap.size + 1 + 1 + 1, 0, none⟩)], .string (strB x), undef, undef, undef, undef, undef, undef, undef, undef, undef, undef, undef, undef, undef, undef, undef, undef, undef, undef, undef, undef, undef, undef, undef, undef, undef, undef, undef, undef, undef, undef, undef, undef, undef, undef, undef, undef, undef, undef, undef, undef, undef, undef, undef], defers := [] }) ?assign ?body ?done ?stop
  case assign =>
    intro l x W K hK
    gi_wp2
    exact hK
  case body =>
    rintro l pre x W hIW hpre
    obtain ⟨⟨⟨v, hb2, hrow, _⟩, hE, hb0, hb1⟩, hB, hzW⟩ := hIW
    have hxm : x ∈ linesF [] s.data.toList := hpre.subset (by simp)
    have hxl : x.length ≤ 1048576 := Nat.le_trans ((lines_len _ s.data.toList (Nat.le_refl _)).2 x hxm) hsl
    have hpl : pre.length + 1 ≤ 1048576 := by
      have h1 := hpre.length_le
      have h2 := (lines_len _ s.data.toList (Nat.le_refl _)).1
      simp at h1; omega
    have htl := trim_len x
    have hcl := cut_len (Lib.trimSuffix x [10])
    have HT : Hid (Calls Tryd.prog 30 #[.string (strB x), .string { data := #[10] }] W fun e w' => e = .returned (.string (strB (Lib.trimSuffix x [10]))) ∧ w' = W) := Lib.hid (by
      have := Tryd.strings_TrimSuffix (strB x) ⟨#[10]⟩ W (by rw [strB_size]; omega)
      rw [strB_list] at this; exact this)
    obtain ⟨m, hml⟩ := (HENV.out W hB).ml
    have HC : Hid (Calls Tryd.prog 29 #[.string (strB (Lib.trimSuffix x [10])), .string { data := #[32] }] W fun e w' => e = .returned (.tuple #[.string (strB (Lib.cut (Lib.trimSuffix x [10]) [32]).1), .string (strB (Lib.cut (Lib.trimSuffix x [10]) [32]).2.1), .bool (Lib.cut (Lib.trimSuffix x [10]) [32]).2.2]) ∧ ∃ n, w' = W.drewN n) := Lib.hid (by
      have := Tryd.strings_Cut (strB (Lib.trimSuffix x [10])) ⟨#[32]⟩ m W (by rw [strB_size]; omega) hml
      rw [strB_list] at this; exact this)
    have HS : Hid (∀ k, Calls Tryd.prog 31 #[.string (strB (Lib.cut (Lib.trimSuffix x [10]) [32]).2.1), .string { data := #[32] }] (W.drewN k) (SpN (W.drewN k) (numsD (splitF 32 [] (Lib.cut (Lib.trimSuffix x [10]) [32]).2.1)))) := Lib.hid (fun k => by
      have := splitn_i (strB (Lib.cut (Lib.trimSuffix x [10]) [32]).2.1) (W.drewN k) (by rw [strB_size]; omega) (HENV.out _ (below_drewN hB k))
      rw [strB_list] at this; exact this)
    have HEX := Lib.hid (entsI_snoc pre x)
    rw [hE, Option.bind_some, entI_pick] at HEX
    have HEE := Lib.hid hE
    generalize hq : Lib.trimSuffix x [10] = q at *
    generalize hc : Lib.cut q [32] = cc at *
    obtain ⟨c1, c2, c3⟩ := cc
    simp only [] at *
    generalize hns : numsD (splitF 32 [] c2) = o at *
    generalize hsx : strB x = sx at *
    generalize strB q = sq at *
    generalize hs1 : strB c1 = s1 at *
    have HS1 := Lib.hid hs1
    clear hs1
    generalize strB c2 = s2 at *
    have hd : 1 ≤ 6 - 1 - 1 := by omega
    obtain ⟨Av, cv, rfl, _⟩ := OwnL.shape (f := Ent.cells) (l := ents pre) hrow
    gi_wp2_with (first
      | (refine ⟨trivial, ?_⟩; gi_at_call 30; refine (CallsIn.inRound l (callsIn_wide.2 HT.out)).mono ?_; rintro e w' ⟨rfl, hw⟩; obtain rfl := hw.symm)
      | (refine ⟨trivial, ?_⟩; gi_at_call 29; refine (CallsIn.inRound l (callsIn_wide.2 HC.out)).mono ?_; rintro e w' ⟨rfl, nq, rfl⟩))
    refine ⟨trivial, ?_⟩
    refine (CallsIn.inRound l (callsIn_wide.2 (HS.out nq))).mono ?_
    rintro e w3 ⟨v3, rfl, o3, hb3⟩
    have hW3 : Below W.heap.size W w3 := (below_drewN (Below.refl _ _) nq).trans hb3
    have hz3 := hW3.size
    have x0 : Boxed w3 w.heap.size 30 (.slice none 0 0) := (hW3.block _ hb0.lt).trans hb0
    have x1 : Boxed w3 (w.heap.size + 1) 4 (.bool false) := (hW3.block _ hb1.lt).trans hb1
    have x2 : Boxed w3 (w.heap.size + 1 + 1) 30 (.slice Av (ents pre).length cv) := (hW3.block _ hb2.lt).trans hb2
    have xc0 := x0.cell
    have xf0 := x0.frozen
    have xc1 := x1.cell
    have xf1 := x1.frozen
    have hB3 : Below w.heap.size w w3 := hB.trans (hW3.mono hB.size)
    by_cases h3 : ∃ b a c, o = some [b, a, c]
    · obtain ⟨b, a, c, rfl⟩ := h3
      have HEN : Hid (entsI (pre ++ [x]) = some (ents pre ++ [⟨s1, b, a, c⟩])) := Lib.hid (by rw [HEX.out, Option.bind_some, pickE, HS1.out]; rfl)
      have HNE : Hid (ents (pre ++ [x]) = ents pre ++ [⟨s1, b, a, c⟩]) := Lib.hid (by have := HEN.out; show (entsI (pre ++ [x])).getD [] = _; rw [this]; rfl)
      have hlen3 : ((some [b, a, c]).getD ([] : List Int)).length = 3 := rfl
      obtain ⟨A3, c3', hv3, hA3⟩ := OwnL.shape o3
      obtain ⟨g3, rfl, _, hg3⟩ := hA3.resolve_left (by simp)
      rw [hlen3] at hv3
      subst hv3
      have y0 : w3.cell? ⟨g3, 0, none⟩ = some (.int .i64 b) := Int64L.at_ (l := [b, a, c]) o3 rfl rfl
      have y1 : w3.cell? ⟨g3, 1, none⟩ = some (.int .i64 a) := Int64L.at_ (l := [b, a, c]) o3 rfl rfl
      have y2 : w3.cell? ⟨g3, 2, none⟩ = some (.int .i64 c) := Int64L.at_ (l := [b, a, c]) o3 rfl rfl
      have xc2 := x2.cell
      have hpe : (ents pre).length + 1 ≤ 16777216 := by rw [(entsI_len HEE.out).1]; omega
      have hrow3 : EntL (w.heap.size + 4) w3 (.slice Av (ents pre).length cv) (ents pre) := OwnL.below hrow hW3
      have HR3 := Lib.hid hrow3
      have hz4 : w.heap.size + 4 ≤ w3.heap.size := by omega
      clear HS HEX hA3 o3 hrow hrow3
      gi_wp2
      refine region_round_load 12 (fun W => W.cell? ⟨w.heap.size + 1 + 1, 0, none⟩ = some (.slice Av (ents pre).length cv)) (v := .slice Av (ents pre).length cv) rfl ?hno (by kernel_rfl) hmx (by kernel_rfl) (fun _ _ _ h => h) (fun W c h => cell_kept h (World.grownBy_alloc W c none) (fun r e => by cases e)) xc2 (fun W hW => by simp [execOp, Act.eval, go_sem, hW]) (fun w6 hw6 => ?_)
      case hno => rintro ⟨a', w', h⟩; exact h
      simp only [addE, List.take, List.drop, Act.put]
      have z0 : w6.cell? ⟨g3, 0, none⟩ = some (.int .i64 b) := by rw [hw6]; exact y0
      have z1 : w6.cell? ⟨g3, 1, none⟩ = some (.int .i64 a) := by rw [hw6]; exact y1
      have z2 : w6.cell? ⟨g3, 2, none⟩ = some (.int .i64 c) := by rw [hw6]; exact y2
      have zc2 : w6.cell? ⟨w.heap.size + 1 + 1, 0, none⟩ = some (.slice Av (ents pre).length cv) := by rw [hw6]; exact xc2
      have x26 : Boxed w6 (w.heap.size + 1 + 1) 30 (.slice Av (ents pre).length cv) := by rw [hw6]; exact x2
      have HR6 : Hid (EntL (w.heap.size + 4) w6 (.slice Av (ents pre).length cv) (ents pre)) := Lib.hid (by rw [hw6]; exact OwnL.below HR3.out (Below.refl _ _).drew)
      have hz6 : w.heap.size + 4 ≤ w6.heap.size := by rw [hw6]; exact hz4
      have hW6 : Below W.heap.size W w6 := by rw [hw6]; exact hW3.drew
      have x06 : Boxed w6 w.heap.size 30 (.slice none 0 0) := by rw [hw6]; exact x0
      have x16 : Boxed w6 (w.heap.size + 1) 4 (.bool false) := by rw [hw6]; exact x1
      clear hw6 y0 y1 y2 xc2 x2 HR3 xc0 xf0 xc1 xf1 x0 x1
      repeat still_step
      refine wpStill_nil ?_
      go_wp2_with (at_builtin; refine stopR ?_)
      intro _
      refine wpList_app1 Ent.cells 4 Ent.len _ rfl _ _ _ rfl (w.heap.size + 4) 48 i0 (.agg #[.string .empty, .int .i64 0, .int .i64 0, .int .i64 0]) 40 Tryd.underlying30 hi hj0 hj1 hj2 rfl (by decide) (.slice Av (ents pre).length cv) (ents pre) rfl (HR6.out.alloc _) w6.heap.size 1 ⟨s1, b, a, c⟩ rfl ?cells (entR_one _) hpe (by omega) (by simp; omega) ?_
      case cells => exact cellsR rfl
      intro v' w7 how7 hg7
      obtain ⟨A7, c7, rfl, _⟩ := OwnL.shape how7
      generalize (ents pre ++ [(⟨s1, b, a, c⟩ : Ent)]).length = n7 at *
      have hgb : ∀ k, (Value.slice Av (ents pre).length cv).ownBlock = some k → w.heap.size + 4 ≤ k := fun k e => (HR6.out.lt k e).1
      obtain ⟨e1, e2, e3, e4, e5⟩ := Boxed.appended x26 (by decide : 30 ≠ 48) (OwnL.base HR6.out (Nat.le_add_right _ 4)) (by omega) (by omega) (OwnL.base how7 (Nat.le_add_right _ 4)) hg7
      have HF : Hid (∀ W', W' = w7.setCell ⟨w.heap.size + 1 + 1, 0, none⟩ (.slice A7 n7 c7) → KeepsOthers W W' ∧ W'.heap[w.heap.size + 1 + 1 + 1]? = W.heap[w.heap.size + 1 + 1 + 1]? ∧ RdI w (pre ++ [x]) W') := Lib.hid (by
        rintro W' rfl
        have hz7 := hg7.size
        simp at hz7
        refine ⟨(keeps_below hW6).trans e4, ?_, ⟨⟨_, e2, ?_, trivial⟩, ?_, ?_, ?_⟩, hB.trans ((hW6.mono hB.size).trans e5), by simp; omega⟩
        · rw [Below.heap_setCell _ _ _ _ (by intro e; simp at e), hg7.block _ (by simp; omega) (by intro e; have := hgb _ e.symm; omega), Below.heap_alloc _ _ _ (by omega)]
          exact hW6.block _ (by omega)
        · rw [HNE.out]
          refine World.ownsRow.kept how7 (grownBy_setCell' w7 _ _) ?_
          cases e : (Value.slice A7 n7 c7).ownBlock with
          | none => exact .inl rfl
          | some q => exact .inr (by intro e6; injection e6 with e6; have := (World.ownsRow.lt how7 q e).1; omega)
        · rw [HNE.out]; exact HEN.out
        · exact boxed_far ((x06.alloc _).kept hg7 (by intro e; have := hgb _ e.symm; omega)) (by omega) _
        · exact boxed_far ((x16.alloc _).kept hg7 (by intro e; have := hgb _ e.symm; omega)) (by omega) _)
      have xc7 := e1.cell
      have xf7 := e1.frozen
      clear how7 hg7 e1 e2 e3 e4 e5
      go_wp2
      exact HF.out _ rfl
    · have HEN : Hid (entsI (pre ++ [x]) = none) := Lib.hid (by
        rw [HEX.out]
        cases o with
        | none => rfl
        | some ns =>
          rw [Option.bind_some]
          unfold pickE
          split
          · exact absurd ⟨_, _, _, rfl⟩ h3
          · rfl)
      have hlen : (o.isSome = true → (o.getD []).length ≠ 3) := by
        cases o with
        | none => simp
        | some ns =>
          intro _ hl
          match ns, hl with
          | [b, a, c], _ => exact h3 ⟨b, a, c, rfl⟩
      obtain ⟨A3, c3', rfl, _⟩ := OwnL.shape o3
      generalize (o.getD []).length = len at *
      have hfin : ∀ W4 : World, W4 = (w3.setCell ⟨w.heap.size, 0, none⟩ (.slice none 0 0)).setCell ⟨w.heap.size + 1, 0, none⟩ (.bool false) → KeepsOthers W W4 ∧ RdX w (pre ++ [x]) W4 := fun W4 h4 => by
        subst h4
        refine ⟨((keeps_below hW3).trans (KeepsOthers.setCell _ _ _)).trans (KeepsOthers.setCell _ _ _), ⟨HEN.out, boxed_far (Boxed.set _ x0) (by omega) _, Boxed.set _ (boxed_far x1 (by omega) _)⟩, (hB3.setCell (p := ⟨w.heap.size, 0, none⟩) (Nat.le_refl _) _).setCell (p := ⟨w.heap.size + 1, 0, none⟩) (Nat.le_succ _) _⟩
      have HF := Lib.hid hfin
      clear hfin
      cases hos : o.isSome
      · rw [hos] at *
        clear hlen h3 HS HEX
        gi_wp2
        exact HF.out _ rfl
      · have hl3 := hlen hos
        rw [hos] at *
        have d1 : decide (len = 3) = false := decide_eq_false hl3
        have d2 : decide ((len : Int) = 3) = false := decide_eq_false (by omega)
        have d3 : (len != 3) = true := by simpa using hl3
        have d4 : ((len : Int) != 3) = true := by simp; omega
        clear hlen h3 HS HEX
        gi_wp2
        exact HF.out _ rfl
  case done =>
    rintro D W hD ⟨⟨⟨v, hb2, hrow, _⟩, hE, hb0, hb1⟩, hB, hzW⟩ hK
    obtain ⟨hel, hev⟩ := entsI_len hE
    have hll := lines_len _ s.data.toList (Nat.le_refl _)
    have hn : (ents (linesF [] s.data.toList)).length ≤ 1048576 := by rw [hel]; omega
    have hv : ∀ e ∈ ents (linesF [] s.data.toList), e.verb.size ≤ 1048576 := fun e he => by
      obtain ⟨q, h1, h2⟩ := hev e he
      exact Nat.le_trans h2 (Nat.le_trans (hll.2 q h1) hsl)
    have HN := Lib.hid (fun h => rdI_bad hE h)
    have HS := Lib.hid (fun h1 h2 => rdI_some hE h1 h2)
    clear hel hev hll hE
    generalize ents (linesF [] s.data.toList) = l at *
    have HV := Lib.hid (valid_i (w.heap.size + 4) v l W hn hrow hv)
    have HT := Lib.hid (fun w1 (hb : Below W.heap.size W w1) => ltext_i (w.heap.size + 4) l v w1 (OwnL.below hrow hb) hn hv (HENV.out w1 (hB.trans (hb.mono hB.size))).pw)
    have HR := Lib.hid hrow
    obtain ⟨Av, cv, rfl, _⟩ := OwnL.shape hrow
    cases hok : ledgerOk l
    · have HF := Lib.hid (HN.out (.inl hok))
      rw [hok] at HV
      clear hrow HN HS HT
      have xc2 := hb2.cell
      gi_wp2_with (fail)
      refine ⟨trivial, ?_⟩
      refine (callsIn_wide.2 HV.out).mono ?_
      rintro e w1 ⟨rfl, hb⟩
      have y0 : Boxed w1 w.heap.size 30 (.slice none 0 0) := (hb.block _ hb0.lt).trans hb0
      have y1 : Boxed w1 (w.heap.size + 1) 4 (.bool false) := (hb.block _ hb1.lt).trans hb1
      have y2 : Boxed w1 (w.heap.size + 1 + 1) 30 (.slice Av l.length cv) := (hb.block _ hb2.lt).trans hb2
      have yc0 := y0.cell
      have yf0 := y0.frozen
      have yc1 := y1.cell
      have yf1 := y1.frozen
      gi_wp2
      have hK1 : w1.heap[D]? = some (.deferred (some [])) := (hb.block D (Array.getElem?_eq_some_iff.1 hK).1).trans hK
      refine ⟨trivial, ?_⟩
      gi_wp2
      exact rdl_end rfl rfl (by omega) hK1 y0 y1 (by rw [HF.out]) (by rw [HF.out]; exact OwnL.of_nil) (hB.trans (hb.mono hB.size))
    · rw [hok] at HV
      have HLS := Lib.hid (ledS_yes hok)
      have HQ := str_eqb (ledT l) s
      have xc2 := hb2.cell
      clear hrow
      gi_wp2_with (fail)
      refine ⟨trivial, ?_⟩
      refine (callsIn_wide.2 HV.out).mono ?_
      rintro e w1 ⟨rfl, hb⟩
      have y0 : Boxed w1 w.heap.size 30 (.slice none 0 0) := (hb.block _ hb0.lt).trans hb0
      have y1 : Boxed w1 (w.heap.size + 1) 4 (.bool false) := (hb.block _ hb1.lt).trans hb1
      have y2 : Boxed w1 (w.heap.size + 1 + 1) 30 (.slice Av l.length cv) := (hb.block _ hb2.lt).trans hb2
      have yc0 := y0.cell
      have yf0 := y0.frozen
      have yc1 := y1.cell
      have yf1 := y1.frozen
      have yc2 := y2.cell
      have HT1 := Lib.hid (HT.out w1 hb)
      rw [HLS.out] at HT1
      gi_wp2_with (fail)
      refine ⟨trivial, ?_⟩
      refine (callsIn_wide.2 HT1.out).mono ?_
      rintro e w2 ⟨rfl, hbb⟩
      have hb' : Below W.heap.size W w2 := hb.trans (hbb.mono hb.size)
      have hK2 : w2.heap[D]? = some (.deferred (some [])) := (hb'.block D (Array.getElem?_eq_some_iff.1 hK).1).trans hK
      have u0 : Boxed w2 w.heap.size 30 (.slice none 0 0) := (hb'.block _ hb0.lt).trans hb0
      have u1 : Boxed w2 (w.heap.size + 1) 4 (.bool false) := (hb'.block _ hb1.lt).trans hb1
      have u2 : Boxed w2 (w.heap.size + 1 + 1) 30 (.slice Av l.length cv) := (hb'.block _ hb2.lt).trans hb2
      have uc0 := u0.cell
      have uf0 := u0.frozen
      have uc1 := u1.cell
      have uf1 := u1.frozen
      have uc2 := u2.cell
      have hBB := hB.trans (hb'.mono hB.size)
      clear yc0 yf0 yc1 yf1 yc2 xc2
      by_cases he : ledT l = s.data.toList
      · have HF := Lib.hid (HS.out hok he)
        rw [decide_eq_true he] at HQ
        clear he HN HS HT HLS
        gi_wp2
        exact rdl_end rfl rfl (by omega) hK2 u0 u1 (by rw [HF.out]) (by rw [HF.out]; exact OwnL.below HR.out hb') hBB
      · have HF := Lib.hid (HN.out (.inr he))
        rw [decide_eq_false he] at HQ
        clear he HN HS HT HLS
        gi_wp2
        exact rdl_end rfl rfl (by omega) hK2 u0 u1 (by rw [HF.out]) (by rw [HF.out]; exact OwnL.of_nil) hBB
  case stop =>
    rintro D pre W hD hpre ⟨⟨hE, hb0, hb1⟩, hB⟩ hK
    have HR := Lib.hid (rdI_none (s := s.data.toList) (by obtain ⟨r, hr⟩ := hpre; rw [← hr]; exact entsI_none hE r))
    clear hE hpre
    gi_wp2
    exact rdl_ret rfl rfl (by omega) hK hb0 hb1 (by rw [HR.out]) (by rw [HR.out]; exact OwnL.of_nil) hB
end Go.Proofs.YtkpjjohanbiagaaDoor
