/- ReadCertificate, impl: the walk. -/
import Derived.Test.YtddihmpiaemadaaGreatDoorFc44
import Derived.Test.YtddihmpiaemadaaGreatDoorFc45
import Derived.Test.YtddihmpiaemadaaGreatDoorFc43
namespace Go.Proofs.YtddihmpiaemadaaGreatDoor
set_option linter.unusedVariables false
set_option linter.unusedSimpArgs false
open Go.RowKit Go.Shelf
attribute [local go_sem] Oper.semAt_some
abbrev SrcL (B : Nat) (w : World) (v : Value) (l : List Src) : Prop := OwnL Src.cells 3 49 B w v l
theorem srcsI_snoc (p : List (List UInt8)) (q : List UInt8) : srcsI (p ++ [q]) = (srcsI p).bind fun l => (srcI q).map fun e => l ++ [e] := by
  induction p with
  | nil => simp only [List.nil_append, srcsI, Option.bind_some, Option.map_some]; cases srcI q <;> rfl
  | cons a p ih =>
    rw [List.cons_append, srcsI, ih, srcsI]
    cases srcI a with
    | none => rfl
    | some e =>
      simp only [Option.bind_some]
      cases srcsI p with
      | none => rfl
      | some l =>
        simp only [Option.bind_some, Option.map_some]
        cases srcI q <;> rfl
theorem srcsI_none {p : List (List UInt8)} (h : srcsI p = none) : ∀ r, srcsI (p ++ r) = none := by
  induction p with
  | nil => cases h
  | cons a p ih =>
    intro r
    rw [List.cons_append, srcsI]
    rw [srcsI] at h
    cases ha : srcI a with
    | none => rfl
    | some e =>
      rw [ha, Option.bind_some] at h
      rw [Option.bind_some, ih (by simpa using h)]; rfl
theorem srcsI_len {p : List (List UInt8)} : ∀ {l : List Src}, srcsI p = some l → l.length = p.length := by
  induction p with
  | nil => intro l h; obtain rfl : l = [] := by simpa [srcsI] using h.symm
           simp
  | cons q p ih =>
    intro l h
    rw [srcsI] at h
    obtain ⟨e, he, h⟩ := Option.bind_eq_some_iff.1 h
    obtain ⟨r, hr, rfl⟩ := Option.map_eq_some_iff.1 h
    simp [ih hr]
def srcs (p : List (List UInt8)) : List Src := (srcsI p).getD []
theorem rcI_none {s : List UInt8} (h : srcsI (linesF [] s) = none) : rcI s = ([], false) := by unfold rcI; rw [h]
theorem rcI_some {s : List UInt8} {l : List Src} (h : srcsI (linesF [] s) = some l) (h1 : certOk l = true) (h2 : cerT l = s) : rcI s = (l, true) := by
  unfold rcI; rw [h]; simp only []; rw [if_pos ⟨h1, h2⟩]
theorem rcI_bad {s : List UInt8} {l : List Src} (h : srcsI (linesF [] s) = some l) (h1 : certOk l = false ∨ ¬ cerT l = s) : rcI s = ([], false) := by
  unfold rcI; rw [h]; simp only []
  rw [if_neg]
  rintro ⟨a, b⟩
  rcases h1 with h1 | h1
  · rw [h1] at a; cases a
  · exact h1 b
/-- what numbers and a word give -/
def pickS (v : List UInt8) (ns : List Int) : Option Src := if kindS v = 0 then none else match ns with
  | [a] => some ⟨kindS v, a, 0⟩
  | [a, b] => some ⟨kindS v, a, b⟩
  | _ => none
theorem srcI_pick (q : List UInt8) : srcI q = (numsD (splitF 32 [] (Lib.cut (Lib.trimSuffix q [10]) [32]).2.1)).bind (pickS (Lib.cut (Lib.trimSuffix q [10]) [32]).1) := rfl
/-- the index of a word -/
def kindX (v : List UInt8) : Int := if v = [] then 0 else if kindS v = 0 then -1 else kindS v
theorem kindX_low {v : List UInt8} (h : kindS v = 0) : kindX v < 1 := by
  unfold kindX; split
  · decide
  · (try rw [if_pos h]); decide
theorem kindX_ok {v : List UInt8} (h : kindS v ≠ 0) : kindX v = kindS v ∧ 1 ≤ kindS v ∧ kindS v ≤ 4 := by
  have hw := word_kind h
  unfold kindX
  rw [if_neg (fun e => h (by rw [e]; decide)), if_neg h]
  exact ⟨rfl, hw.2⟩
theorem idx_kind (v : List UInt8) : Lib.idxOfS [strB (wordL 0), strB (wordL 1), strB (wordL 2), strB (wordL 3), strB (wordL 4)] (strB v) = kindX v := by
  have hs : ∀ k, (strB (wordL k) = strB v) = (v = wordL k) := fun k => propext ⟨fun e => by have := congrArg (fun z : ByteArray => z.data.toList) e; simpa [strB_list] using this.symm, fun e => by rw [e]⟩
  unfold Lib.idxOfS kindX kindS
  simp only [Lib.idxFromS, hs]
  simp only [show wordL 0 = [] from rfl]
  repeat' split
  all_goals first | rfl | (simp_all; done) | (exfalso; simp_all; done)
def RcR (w : World) (pre : List (List UInt8)) (W : World) : Prop :=
  ((∃ v, Boxed W (w.heap.size + 1 + 1) 35 v ∧ W.ownsRow (w.heap.size + 4) 49 3 v (srcs pre).length (flat Src.cells (srcs pre)) ∧ True) ∧ srcsI pre = some (srcs pre) ∧ Boxed W w.heap.size 35 (.slice none 0 0) ∧ Boxed W (w.heap.size + 1) 4 (.bool false)) ∧ Below w.heap.size w W ∧ w.heap.size + 4 ≤ W.heap.size
def RcX (w : World) (pre : List (List UInt8)) (W : World) : Prop :=
  (srcsI pre = none ∧ Boxed W w.heap.size 35 (.slice none 0 0) ∧ Boxed W (w.heap.size + 1) 4 (.bool false)) ∧ Below w.heap.size w W
theorem rcR_own (w : World) : OwnFrom (w.heap.size + 4) (RcR w) :=
  OwnFrom.and (Own.from (fun s A B row hs hg hr => ⟨holdsRow_own (w.heap.size + 4) (w.heap.size + 1 + 1) 35 49 3 (fun p => (srcs p).length) (fun p => flat Src.cells (srcs p)) (fun _ _ => True) s A B row hs.1 hg hr, hs.2.1, boxed_kept hs.2.2.1 hg hr, boxed_kept hs.2.2.2 hg hr⟩) _) (OwnFrom.and (ownFrom_below (Nat.le_refl _) (by omega)) (ownFrom_size _ _))
theorem rcX_own (w : World) : OwnFrom (w.heap.size + 4) (RcX w) :=
  OwnFrom.and (Own.from (fun s A B row hs hg hr => ⟨hs.1, boxed_kept hs.2.1 hg hr, boxed_kept hs.2.2 hg hr⟩) _) (ownFrom_below (Nat.le_refl _) (by omega))
theorem rcR_box (w : World) : ∀ s A u, RcR w s A → RcR w s (A.setCell ⟨w.heap.size + 1 + 1 + 1, 0, none⟩ u) := by
  rintro s A u ⟨⟨⟨v, h1, h2, _⟩, h3, h4, h5⟩, h6, h7⟩
  refine ⟨⟨⟨v, boxed_far h1 (by omega) u, h2.kept (grownBy_setCell' A _ u) ?_, trivial⟩, h3, boxed_far h4 (by omega) u, boxed_far h5 (by omega) u⟩, h6.setCell (p := ⟨w.heap.size + 1 + 1 + 1, 0, none⟩) (by show w.heap.size ≤ w.heap.size + 1 + 1 + 1; omega) u, by rw [World.size_setCell]; exact h7⟩
  cases e : v.ownBlock with
  | none => exact .inl rfl
  | some q => exact .inr (by intro e2; injection e2 with e2; have := (h2.lt q e).1; omega)
theorem rc_ret {w W : World} {s : ByteArray} {D : Nat} {tm : Array Value} {v : Value} {b : Bool} (h2 : tm[2]? = some (.pointer (some ⟨w.heap.size, 0, none⟩))) (h3 : tm[3]? = some (.pointer (some ⟨w.heap.size + 1, 0, none⟩)))
    (hD : w.heap.size ≤ D) (hK : W.heap[D]? = some (.deferred (some []))) (x0 : Boxed W w.heap.size 35 v) (x1 : Boxed W (w.heap.size + 1) 4 (.bool b)) (hb : b = (rcI s.data.toList).2)
    (ho : SrcL w.heap.size W v (rcI s.data.toList).1) (hB : Below w.heap.size w W) :
    bodyPostM Fence.wide 6 Tryz.prog Tryz.f13 (fun e w' => ∃ v, e = .returned (.tuple #[.agg #[v], .bool (rcI s.data.toList).2]) ∧ SrcL w.heap.size w' v (rcI s.data.toList).1 ∧ Below w.heap.size w w')
      Exit.ret { tmps := tm, defers := [{ target := .collected D, args := #[] }] } W := by
  refine ⟨by simp, .inl ⟨_, _, rfl, run_takeDeferred hK, ?_⟩⟩
  have hc0 := cell_kept x0.cell (grownBy_putObj' _ D (.deferred none)) (fun r e => by cases e; exact ⟨_, hK, rfl⟩)
  have hc1 := cell_kept x1.cell (grownBy_putObj' _ D (.deferred none)) (fun r e => by cases e; exact ⟨_, hK, rfl⟩)
  refine ⟨.tuple #[.agg #[v], .bool b], ?_, v, by rw [hb], ?_, hB.trans (belowK_b (w := w) (Nat.le_refl _) W D _ _ hD hK rfl rfl)⟩
  · simp [results, Tryz.f13, go_sem, Act.eval, h2, h3, hc0, hc1]
  · exact ownsRow_putObj ho _ hK rfl
theorem rc_end {w W : World} {s : ByteArray} {D : Nat} {tm : Array Value} {v v0 : Value} {b b0 : Bool} (h2 : tm[2]? = some (.pointer (some ⟨w.heap.size, 0, none⟩))) (h3 : tm[3]? = some (.pointer (some ⟨w.heap.size + 1, 0, none⟩)))
    (hD : w.heap.size + 4 ≤ D) (hK : W.heap[D]? = some (.deferred (some []))) (y0 : Boxed W w.heap.size 35 v0) (y1 : Boxed W (w.heap.size + 1) 4 (.bool b0)) (hb : b = (rcI s.data.toList).2)
    (ho : SrcL (w.heap.size + 4) W v (rcI s.data.toList).1) (hB : Below w.heap.size w W) :
    bodyPostM Fence.wide 6 Tryz.prog Tryz.f13 (fun e w' => ∃ v, e = .returned (.tuple #[.agg #[v], .bool (rcI s.data.toList).2]) ∧ SrcL w.heap.size w' v (rcI s.data.toList).1 ∧ Below w.heap.size w w')
      Exit.ret { tmps := tm, defers := [{ target := .collected D, args := #[] }] } ((W.setCell ⟨w.heap.size, 0, none⟩ v).setCell ⟨w.heap.size + 1, 0, none⟩ (.bool b)) := by
  refine rc_ret h2 h3 (by omega) ?_ (boxed_far (Boxed.set _ y0) (by omega) _) (Boxed.set _ (boxed_far y1 (by omega) _)) hb ?_ ((hB.setCell (p := ⟨w.heap.size, 0, none⟩) (Nat.le_refl _) _).setCell (p := ⟨w.heap.size + 1, 0, none⟩) (Nat.le_succ _) _)
  · rw [Below.heap_setCell _ _ _ _ (by intro e; simp at e; omega), Below.heap_setCell _ _ _ _ (by intro e; simp at e; omega)]; exact hK
  · refine OwnL.base ?_ (Nat.le_add_right _ 4)
    have far : ∀ k, k < w.heap.size + 4 → v.ownBlock = none ∨ v.ownBlock ≠ some k := fun k hk => by
      cases e : v.ownBlock with
      | none => exact .inl rfl
      | some q => exact .inr (by intro e6; injection e6 with e6; have := (World.ownsRow.lt ho q e).1; omega)
    exact OwnL.kept (OwnL.kept ho (grownBy_setCell' W _ _) (far _ (by omega))) (grownBy_setCell' _ _ _) (far _ (by omega))
theorem srcR_one (b : Src) : ∀ u ∈ b.cells, u.oneCell' = true := by simp [Src.cells, Value.oneCell']
theorem srcR_cells {w : World} {n : Nat} {a b c : Int} {t : TypeId} (hn : n = w.heap.size) : ∀ j u, (Src.cells ⟨a, b, c⟩)[j]? = some u → (w.alloc (.cells #[.int .i64 a, .int .i64 b, .int .i64 c] t)).cell? ⟨n, j, none⟩ = some u := by
  intro j u hu
  rw [World.cell?_alloc_at _ _ _ _ hn]
  simpa [Src.cells] using hu
theorem rc_app {w W w5 w7 : World} {pre : List (List UInt8)} {x : List UInt8} {src : Src} {v v7 : Value} {tmp : Obj}
    (hB : Below w.heap.size w W) (hW5 : Below W.heap.size W w5) (hzW : w.heap.size + 4 ≤ W.heap.size)
    (x2 : Boxed w5 (w.heap.size + 1 + 1) 35 v) (x0 : Boxed w5 w.heap.size 35 (.slice none 0 0)) (x1 : Boxed w5 (w.heap.size + 1) 4 (.bool false))
    (HR : SrcL (w.heap.size + 4) w5 v (srcs pre)) (HEN : srcsI (pre ++ [x]) = some (srcs pre ++ [src]))
    (how7 : SrcL (w.heap.size + 4) w7 v7 (srcs pre ++ [src])) (hg7 : (w5.alloc tmp).grownBy w7 v.ownBlock) :
    Boxed w7 (w.heap.size + 1 + 1) 35 v ∧ ∀ W', W' = w7.setCell ⟨w.heap.size + 1 + 1, 0, none⟩ v7 → KeepsOthers W W' ∧ W'.heap[w.heap.size + 1 + 1 + 1]? = W.heap[w.heap.size + 1 + 1 + 1]? ∧ RcR w (pre ++ [x]) W' := by
  have HNE : srcs (pre ++ [x]) = srcs pre ++ [src] := by show (srcsI (pre ++ [x])).getD [] = _; rw [HEN]; rfl
  have hz5 := hW5.size
  have hgb : ∀ k, v.ownBlock = some k → w.heap.size + 4 ≤ k := fun k e => (World.ownsRow.lt HR k e).1
  obtain ⟨e1, e2, e3, e4, e5⟩ := Boxed.appended x2 (by decide : 35 ≠ 49) (OwnL.base HR (Nat.le_add_right _ 4)) (by omega) (by omega) (OwnL.base how7 (Nat.le_add_right _ 4)) hg7
  refine ⟨e1, ?_⟩
  rintro W' rfl
  have hz7 := hg7.size
  simp at hz7
  refine ⟨(keeps_below hW5).trans e4, ?_, ⟨⟨_, e2, ?_, trivial⟩, ?_, ?_, ?_⟩, hB.trans ((hW5.mono hB.size).trans e5), by simp; omega⟩
  · rw [Below.heap_setCell _ _ _ _ (by intro e; simp at e), hg7.block _ (by simp; omega) (by intro e; have := hgb _ e.symm; omega), Below.heap_alloc _ _ _ (by omega)]
    exact hW5.block _ (by omega)
  · rw [HNE]
    refine World.ownsRow.kept how7 (grownBy_setCell' w7 _ _) ?_
    cases e : v7.ownBlock with
    | none => exact .inl rfl
    | some q => exact .inr (by intro e6; injection e6 with e6; have := (World.ownsRow.lt how7 q e).1; omega)
  · rw [HNE]; exact HEN
  · exact boxed_far ((x0.alloc _).kept hg7 (by intro e; have := hgb _ e.symm; omega)) (by omega) _
  · exact boxed_far ((x1.alloc _).kept hg7 (by intro e; have := hgb _ e.symm; omega)) (by omega) _
theorem numsD_len : ∀ (l : List (List UInt8)) (ns : List Int), numsD l = some ns → ns.length = l.length := by
  intro l
  induction l with
  | nil => intro ns h; obtain rfl : ns = [] := by simpa [numsD] using h.symm
           rfl
  | cons a r ih =>
    intro ns h
    rw [numsD_cons] at h
    obtain ⟨x, _, h⟩ := Option.bind_eq_some_iff.1 h
    obtain ⟨t, ht, rfl⟩ := Option.map_eq_some_iff.1 h
    simp [ih t ht]
set_option maxRecDepth 100000 in
set_option maxHeartbeats 4000000 in
theorem rc_i (s : ByteArray) (w : World) (hs : s.size ≤ 1048576) (env : EnvR w) (wd : Wrd w) :
    Calls Tryz.prog 13 #[.string s] w fun e w' => ∃ v, e = .returned (.tuple #[.agg #[v], .bool (rcI s.data.toList).2]) ∧ SrcL w.heap.size w' v (rcI s.data.toList).1 ∧ Below w.heap.size w w' := by
  have hsl : s.data.toList.length ≤ 1048576 := by rw [data_len]; exact hs
  have HENV := Lib.hid (fun W (hb : Below w.heap.size w W) => env.below hb)
  have HWRD := Lib.hid (fun W (hb : Below w.heap.size w W) => wd.below hb)
  obtain ⟨i0, hi, hj0, hj1, hj2⟩ := info_parts Src.info
  refine (callsIn_wide (n := 6)).1 ?_
  refine callsIn_of_wp_marks Tryz.func13 rfl trivial ?_ rfl
  simp only [Tryz.ntmps13, List.size_toArray, List.length_cons, List.length_nil, Nat.reduceAdd, Nat.reduceSub, Array.replicate_succ, Array.replicate_zero, List.push_toArray, List.append_toArray, List.nil_append, List.cons_append]
  gi_wp2_with (refine ⟨trivial, ?_⟩; gi_at_call 27; refine (callsIn_wide.2 (lines_call s _)).mono ?_; rintro e w' ⟨rfl, rfl⟩)
  obtain ⟨W0, hW0⟩ : ∃ W0, ((((w.alloc (.cells #[.slice none 0 0] 35)).alloc (.cells #[.bool false] 4)).alloc (.cells #[.slice none 0 0] 35)).alloc (.cells #[.string s] 9)) = W0 := ⟨_, rfl⟩
  have hz0 : W0.heap.size = w.heap.size + 4 := by rw [← hW0]; simp
  have hB0 : Below w.heap.size w W0 := by rw [← hW0]; exact Below.alloc (Below.alloc (Below.alloc (Below.alloc (Below.refl _ _) (Nat.le_refl _) _) (by simp) _) (by simp; omega) _) (by simp; omega) _
  have hI0 : RcR w [] W0 := by
    have x1 : Boxed (w.alloc (.cells #[.slice none 0 0] 35)) w.heap.size 35 (.slice none 0 0) := Boxed.new w _ _
    have x2 := Boxed.new (w.alloc (.cells #[.slice none 0 0] 35)) 4 (.bool false)
    have x3 := Boxed.new ((w.alloc (.cells #[.slice none 0 0] 35)).alloc (.cells #[.bool false] 4)) 35 (.slice none 0 0)
    simp only [World.size_alloc] at x2 x3
    refine ⟨⟨⟨.slice none 0 0, by rw [← hW0]; exact x3.alloc _, World.ownsRow_nil _ _ _ _, trivial⟩, rfl, by rw [← hW0]; exact ((x1.alloc _).alloc _).alloc _, by rw [← hW0]; exact (x2.alloc _).alloc _⟩, hB0, by omega⟩
  have hc0 : W0.cell? ⟨w.heap.size + 1 + 1 + 1, 0, none⟩ = some (.string s) ∧ W0.frozen? ⟨w.heap.size + 1 + 1 + 1, 0, none⟩ = false := by
    have x4 := Boxed.new (((w.alloc (.cells #[.slice none 0 0] 35)).alloc (.cells #[.bool false] 4)).alloc (.cells #[.slice none 0 0] 35)) 9 (.string s)
    simp only [World.size_alloc] at x4
    rw [hW0] at x4
    exact ⟨x4.cell, x4.frozen⟩
  rw [hW0]
  clear hW0
  have hseq := lines_seq 5 (w.heap.size + 1 + 1 + 1) s.data.toList W0 (by omega) hsl (by rw [strB_data]; exact hc0.1) hc0.2
  refine wpIn_rangeBox (n := 6) (by omega) (gf := 65) (lb := #[.pointer (some ⟨w.heap.size + 1 + 1 + 1, 0, none⟩)]) rfl (enters_of Tryz.func65 (by kernel_rfl) rfl) (by omega) hseq rfl
    (RcR w) (RcX w) (by rw [hz0]; exact rcR_own w) (by rw [hz0]; exact rcX_own w) (rcR_box w) hI0
    (fun x => { tmps := #[.string s, undef, .pointer (some ⟨w.heap.size, 0, none⟩), .pointer (some ⟨w.heap.size + 1, 0, none⟩), .pointer (some ⟨w.heap.size + 1 + 1, 0, none⟩), .string (strB x), undef, undef, undef, undef, undef, undef, undef, .string s, .func (.func 65) #[] #[.pointer (some ⟨w.heap.size + 1 + 1 + 1, 0, none⟩)], .string (strB x), undef, undef, undef, undef, undef, undef, undef, undef, undef, undef, undef, undef, undef, undef, undef, undef, undef, undef, undef, undef, undef, undef, undef, undef, undef, undef, undef, undef, undef, undef, undef, undef, undef, undef, undef, undef, undef, undef, undef, undef, undef, undef, undef, undef, undef, undef, undef, undef, undef, undef, undef, undef, undef, undef, undef, undef], defers := [] }) ?assign ?body ?done ?stop
  case assign =>
    intro l x W K hK
    gi_wp2
    exact hK
  case body =>
    rintro l pre x W hIW hpre
    obtain ⟨⟨⟨v, hb2, hrow, _⟩, hE, hb0, hb1⟩, hB, hzW⟩ := hIW
    have hxm : x ∈ linesF [] s.data.toList := hpre.subset (by simp)
    have hxl : x.length ≤ 1048576 := Nat.le_trans ((lines_len _ s.data.toList (Nat.le_refl _)).2 x hxm) hsl
    have hpl : pre.length + 1 ≤ 1048576 := by
      have h1 := hpre.length_le
      have h2 := (lines_len _ s.data.toList (Nat.le_refl _)).1
      simp at h1; omega
    have htl := trim_len x
    have hcl := cut_len (Lib.trimSuffix x [10])
    have HT : Hid (Calls Tryz.prog 29 #[.string (strB x), .string { data := #[10] }] W fun e w' => e = .returned (.string (strB (Lib.trimSuffix x [10]))) ∧ w' = W) := Lib.hid (by
      have := Tryz.strings_TrimSuffix (strB x) ⟨#[10]⟩ W (by rw [strB_size]; omega)
      rw [strB_list] at this; exact this)
    obtain ⟨m, hml⟩ := (HENV.out W hB).ml
    have HC : Hid (Calls Tryz.prog 28 #[.string (strB (Lib.trimSuffix x [10])), .string { data := #[32] }] W fun e w' => e = .returned (.tuple #[.string (strB (Lib.cut (Lib.trimSuffix x [10]) [32]).1), .string (strB (Lib.cut (Lib.trimSuffix x [10]) [32]).2.1), .bool (Lib.cut (Lib.trimSuffix x [10]) [32]).2.2]) ∧ ∃ n, w' = W.drewN n) := Lib.hid (by
      have := Tryz.strings_Cut (strB (Lib.trimSuffix x [10])) ⟨#[32]⟩ m W (by rw [strB_size]; omega) hml
      rw [strB_list] at this; exact this)
    have HS : Hid (∀ k, Calls Tryz.prog 30 #[.string (strB (Lib.cut (Lib.trimSuffix x [10]) [32]).2.1), .string { data := #[32] }] (W.drewN k) (SpN (W.drewN k) (numsD (splitF 32 [] (Lib.cut (Lib.trimSuffix x [10]) [32]).2.1)))) := Lib.hid (fun k => by
      have := splitn_i (strB (Lib.cut (Lib.trimSuffix x [10]) [32]).2.1) (W.drewN k) (by rw [strB_size]; omega) (HENV.out _ (below_drewN hB k))
      rw [strB_list] at this; exact this)
    have HI : Hid (∀ W' : World, Below w.heap.size w W' → Calls Tryz.prog 31 #[.slice (some ⟨0, 0, none⟩) 5 5, .string (strB (Lib.cut (Lib.trimSuffix x [10]) [32]).1)] W' fun e w' => e = .returned (.int .i64 (kindX (Lib.cut (Lib.trimSuffix x [10]) [32]).1)) ∧ w' = W') := Lib.hid (fun W' hW' => by
      have hwd := HWRD.out W' hW'
      have := Tryz.slices_Index_string 0 0 5 5 [strB (wordL 0), strB (wordL 1), strB (wordL 2), strB (wordL 3), strB (wordL 4)] (strB (Lib.cut (Lib.trimSuffix x [10]) [32]).1) W' (by decide) (by decide) (fun j hj => by
        have hj' : j < 5 := hj
        rw [Nat.zero_add, hwd.cell hj']
        match j, hj' with
        | 0, _ => rfl
        | 1, _ => rfl
        | 2, _ => rfl
        | 3, _ => rfl
        | 4, _ => rfl)
      rw [List.take_of_length_le (by decide), idx_kind] at this
      exact this)
    have HEX := Lib.hid (srcsI_snoc pre x)
    rw [hE, Option.bind_some, srcI_pick] at HEX
    have HEE := Lib.hid hE
    generalize hq : Lib.trimSuffix x [10] = q at *
    generalize hc : Lib.cut q [32] = cc at *
    obtain ⟨c1, c2, c3⟩ := cc
    simp only [] at *
    have hnl : ∀ ns, numsD (splitF 32 [] c2) = some ns → 0 < ns.length := fun ns h => by rw [numsD_len _ _ h]; exact List.length_pos_iff.2 (splitF_ne 32 c2 [])
    generalize hns : numsD (splitF 32 [] c2) = o at *
    generalize hsx : strB x = sx at *
    generalize strB q = sq at *
    generalize hs1 : strB c1 = s1 at *
    generalize hkx : kindX c1 = kx at *
    clear hs1
    generalize strB c2 = s2 at *
    have hd : 1 ≤ 6 - 1 - 1 := by omega
    obtain ⟨Av, cv, rfl, _⟩ := OwnL.shape (f := Src.cells) (l := srcs pre) hrow
    gi_wp2_with (first
      | (refine ⟨trivial, ?_⟩; gi_at_call 29; refine (CallsIn.inRound l (callsIn_wide.2 HT.out)).mono ?_; rintro e w' ⟨rfl, hw⟩; obtain rfl := hw.symm)
      | (refine ⟨trivial, ?_⟩; gi_at_call 28; refine (CallsIn.inRound l (callsIn_wide.2 HC.out)).mono ?_; rintro e w' ⟨rfl, nq, rfl⟩))
    refine ⟨trivial, ?_⟩
    refine (CallsIn.inRound l (callsIn_wide.2 (HS.out nq))).mono ?_
    rintro e w3 ⟨v3, rfl, o3, hb3⟩
    have hW3 : Below W.heap.size W w3 := (below_drewN (Below.refl _ _) nq).trans hb3
    have hz3 := hW3.size
    have hB3 : Below w.heap.size w w3 := hB.trans (hW3.mono hB.size)
    have HI3 := Lib.hid (HI.out w3 hB3)
    have x0 : Boxed w3 w.heap.size 35 (.slice none 0 0) := (hW3.block _ hb0.lt).trans hb0
    have x1 : Boxed w3 (w.heap.size + 1) 4 (.bool false) := (hW3.block _ hb1.lt).trans hb1
    have x2 : Boxed w3 (w.heap.size + 1 + 1) 35 (.slice Av (srcs pre).length cv) := (hW3.block _ hb2.lt).trans hb2
    have xc0 := x0.cell
    have xf0 := x0.frozen
    have xc1 := x1.cell
    have xf1 := x1.frozen
    gi_wp2_with (fail)
    refine ⟨trivial, ?_⟩
    refine (CallsIn.inRound l (callsIn_wide.2 HI3.out)).mono ?_
    rintro e w4 ⟨rfl, hw4⟩
    obtain rfl := hw4.symm
    clear HI HI3 HS HT HC
    by_cases h3 : ∃ ns, o = some ns ∧ kindS c1 ≠ 0 ∧ ns.length ≤ 2
    · obtain ⟨ns, rfl, hk0, hn2⟩ := h3
      obtain ⟨hkk, hk1, hk4⟩ := kindX_ok hk0
      have hn1 := hnl ns rfl
      rw [hkx] at hkk
      have xc2 := x2.cell
      have dk : decide (kx < 1) = false := decide_eq_false (by omega)
      have HR3 := Lib.hid (OwnL.below hrow hW3)
      have hz4 : w.heap.size + 4 ≤ w3.heap.size := by omega
      have hlt2 : w.heap.size + 1 + 1 < w3.heap.size := by omega
      have hpe : (srcs pre).length + 1 ≤ 16777216 := by rw [srcsI_len HEE.out]; omega
      obtain ⟨A3, c3', rfl, hA3⟩ := OwnL.shape o3
      obtain ⟨g3, rfl, _, hg3⟩ := hA3.resolve_left (by show ns ≠ []; exact List.length_pos_iff.1 hn1)
      have hns2 : (∃ a, ns = [a]) ∨ ∃ a b, ns = [a, b] := by
        match ns, hn1, hn2 with
        | [a], _, _ => exact .inl ⟨a, rfl⟩
        | [a, b], _, _ => exact .inr ⟨a, b, rfl⟩
      rcases hns2 with ⟨na, rfl⟩ | ⟨na, nb, rfl⟩
      · have HEN : Hid (srcsI (pre ++ [x]) = some (srcs pre ++ [⟨kx, na, 0⟩])) := Lib.hid (by rw [HEX.out, Option.bind_some, pickS, if_neg hk0, hkk]; rfl)
        have HNE : Hid (srcs (pre ++ [x]) = srcs pre ++ [⟨kx, na, 0⟩]) := Lib.hid (by have := HEN.out; show (srcsI (pre ++ [x])).getD [] = _; rw [this]; rfl)
        have y0 : w3.cell? ⟨g3, 0, none⟩ = some (.int .i64 na) := Int64L.at_ (l := [na]) o3 rfl rfl
        have hg3' : g3 < w3.heap.size := hg3
        simp only [Option.getD_some, List.length_cons, List.length_nil, Option.isSome_some]
        clear HEX hA3 o3 hrow hk0 hkk hnl hn1 hn2 hns
        gi_wp2_with (gi_at_builtin; refine stopR ?_)
        intro _
        refine list_round ?hno _ (by rfl) _ _ ?_
        case hno => rintro ⟨a', w', h⟩; exact h
        have hW5 : Below W.heap.size W (w3.alloc (.cells #[.int .i64 kx, .int .i64 na, .int .i64 0] 49)) := Below.alloc hW3 hz3 _
        have x25 := x2.alloc (.cells #[.int .i64 kx, .int .i64 na, .int .i64 0] 49)
        have x05 := x0.alloc (.cells #[.int .i64 kx, .int .i64 na, .int .i64 0] 49)
        have x15 := x1.alloc (.cells #[.int .i64 kx, .int .i64 na, .int .i64 0] 49)
        have HR5 := Lib.hid (OwnL.alloc HR3.out (.cells #[.int .i64 kx, .int .i64 na, .int .i64 0] 49))
        refine wpList_app1 Src.cells 3 Src.len _ rfl _ _ _ rfl (w.heap.size + 4) 49 i0 (.agg #[.int .i64 0, .int .i64 0, .int .i64 0]) 24 Tryz.underlying33 hi hj0 hj1 hj2 rfl (by decide) (.slice Av (srcs pre).length cv) (srcs pre) rfl (HR5.out.alloc _) _ 1 ⟨kx, na, 0⟩ rfl ?cells (srcR_one _) hpe (by omega) (by simp; omega) ?_
        case cells => exact srcR_cells (by simp)
        intro v7 w7 how7 hg7
        obtain ⟨e1, e2⟩ := rc_app hB hW5 hzW x25 x05 x15 HR5.out HEN.out how7 hg7
        obtain ⟨A7, c7, rfl, _⟩ := OwnL.shape how7
        generalize (srcs pre ++ [(⟨kx, na, 0⟩ : Src)]).length = n7 at *
        have HF := Lib.hid e2
        have xc7 := e1.cell
        have xf7 := e1.frozen
        clear how7 hg7 e1 e2
        go_wp2
        exact HF.out _ rfl
      · have HEN : Hid (srcsI (pre ++ [x]) = some (srcs pre ++ [⟨kx, na, nb⟩])) := Lib.hid (by rw [HEX.out, Option.bind_some, pickS, if_neg hk0, hkk]; rfl)
        have y0 : w3.cell? ⟨g3, 0, none⟩ = some (.int .i64 na) := Int64L.at_ (l := [na, nb]) o3 rfl rfl
        have y1 : w3.cell? ⟨g3, 1, none⟩ = some (.int .i64 nb) := Int64L.at_ (l := [na, nb]) o3 rfl rfl
        have hg3' : g3 < w3.heap.size := hg3
        simp only [Option.getD_some, List.length_cons, List.length_nil, Option.isSome_some]
        clear HEX hA3 o3 hrow hk0 hkk hnl hn1 hn2 hns
        gi_wp2_with (gi_at_builtin; refine stopR ?_)
        intro _
        refine list_round ?hno _ (by rfl) _ _ ?_
        case hno => rintro ⟨a', w', h⟩; exact h
        have hW5 : Below W.heap.size W (w3.alloc (.cells #[.int .i64 kx, .int .i64 na, .int .i64 nb] 49)) := Below.alloc hW3 hz3 _
        have x25 := x2.alloc (.cells #[.int .i64 kx, .int .i64 na, .int .i64 nb] 49)
        have x05 := x0.alloc (.cells #[.int .i64 kx, .int .i64 na, .int .i64 nb] 49)
        have x15 := x1.alloc (.cells #[.int .i64 kx, .int .i64 na, .int .i64 nb] 49)
        have HR5 := Lib.hid (OwnL.alloc HR3.out (.cells #[.int .i64 kx, .int .i64 na, .int .i64 nb] 49))
        refine wpList_app1 Src.cells 3 Src.len _ rfl _ _ _ rfl (w.heap.size + 4) 49 i0 (.agg #[.int .i64 0, .int .i64 0, .int .i64 0]) 24 Tryz.underlying33 hi hj0 hj1 hj2 rfl (by decide) (.slice Av (srcs pre).length cv) (srcs pre) rfl (HR5.out.alloc _) _ 1 ⟨kx, na, nb⟩ rfl ?cells (srcR_one _) hpe (by omega) (by simp; omega) ?_
        case cells => exact srcR_cells (by simp)
        intro v7 w7 how7 hg7
        obtain ⟨e1, e2⟩ := rc_app hB hW5 hzW x25 x05 x15 HR5.out HEN.out how7 hg7
        obtain ⟨A7, c7, rfl, _⟩ := OwnL.shape how7
        generalize (srcs pre ++ [(⟨kx, na, nb⟩ : Src)]).length = n7 at *
        have HF := Lib.hid e2
        have xc7 := e1.cell
        have xf7 := e1.frozen
        clear how7 hg7 e1 e2
        go_wp2
        exact HF.out _ rfl
    · have HEN : Hid (srcsI (pre ++ [x]) = none) := Lib.hid (by
        rw [HEX.out]
        cases o with
        | none => rfl
        | some ns =>
          rw [Option.bind_some]
          unfold pickS
          by_cases hk0 : kindS c1 = 0
          · rw [if_pos hk0]; rfl
          · rw [if_neg hk0]
            split
            · exact absurd ⟨_, rfl, hk0, by simp⟩ h3
            · exact absurd ⟨_, rfl, hk0, by simp⟩ h3
            · rfl)
      have hfin : ∀ W4 : World, W4 = (w3.setCell ⟨w.heap.size, 0, none⟩ (.slice none 0 0)).setCell ⟨w.heap.size + 1, 0, none⟩ (.bool false) → KeepsOthers W W4 ∧ RcX w (pre ++ [x]) W4 := fun W4 h4 => by
        subst h4
        refine ⟨((keeps_below hW3).trans (KeepsOthers.setCell _ _ _)).trans (KeepsOthers.setCell _ _ _), ⟨HEN.out, boxed_far (Boxed.set _ x0) (by omega) _, Boxed.set _ (boxed_far x1 (by omega) _)⟩, (hB3.setCell (p := ⟨w.heap.size, 0, none⟩) (Nat.le_refl _) _).setCell (p := ⟨w.heap.size + 1, 0, none⟩) (Nat.le_succ _) _⟩
      have HF := Lib.hid hfin
      obtain ⟨A3, c3', rfl, _⟩ := OwnL.shape o3
      clear hfin HEX
      cases o with
      | none =>
        clear h3 hnl hns
        simp only [Option.isSome_none]
        gi_wp2
        exact HF.out _ rfl
      | some ns =>
        simp only [Option.isSome_some, Option.getD_some]
        by_cases hk0 : kindS c1 = 0
        · have dk := kindX_low hk0
          rw [hkx] at dk
          have dk2 : decide (kx < 1) = true := decide_eq_true dk
          clear h3 hnl hns hk0
          gi_wp2
          exact HF.out _ rfl
        · have hl2 : 2 < ns.length := by
            rcases Nat.lt_or_ge 2 ns.length with h | h
            · exact h
            · exact absurd ⟨ns, rfl, hk0, h⟩ h3
          obtain ⟨hkk, hk1, hk4⟩ := kindX_ok hk0
          rw [hkx] at hkk
          have dk : decide (kx < 1) = false := decide_eq_false (by omega)
          have dl : decide ((2 : Int) < (ns.length : Int)) = true := decide_eq_true (by omega)
          generalize ns.length = nl at *
          clear h3 hnl hns hk0
          gi_wp2
          exact HF.out _ rfl
  case done =>
    rintro D W hD ⟨⟨⟨v, hb2, hrow, _⟩, hE, hb0, hb1⟩, hB, hzW⟩ hK
    have hel := srcsI_len hE
    have hll := lines_len _ s.data.toList (Nat.le_refl _)
    have hn : (srcs (linesF [] s.data.toList)).length ≤ 1048576 := by rw [hel]; omega
    have HN := Lib.hid (fun h => rcI_bad hE h)
    have HS := Lib.hid (fun h1 h2 => rcI_some hE h1 h2)
    clear hel hll hE
    generalize srcs (linesF [] s.data.toList) = l at *
    have HV := Lib.hid (cert_i (w.heap.size + 4) l v W hrow hn)
    have HT := Lib.hid (fun w1 (hb : Below W.heap.size W w1) => ctext_i (w.heap.size + 4) l v w1 (OwnL.below hrow hb) hn (HENV.out w1 (hB.trans (hb.mono hB.size))).pw (HWRD.out w1 (hB.trans (hb.mono hB.size))))
    have HR := Lib.hid hrow
    obtain ⟨Av, cv, rfl, _⟩ := OwnL.shape hrow
    have xc2 := hb2.cell
    cases hok : certOk l
    · have HF := Lib.hid (HN.out (.inl hok))
      rw [hok] at HV
      clear hrow HN HS HT
      gi_wp2_with (fail)
      refine ⟨trivial, ?_⟩
      refine (callsIn_wide.2 HV.out).mono ?_
      rintro e w1 ⟨rfl, hb⟩
      have y0 : Boxed w1 w.heap.size 35 (.slice none 0 0) := (hb.block _ hb0.lt).trans hb0
      have y1 : Boxed w1 (w.heap.size + 1) 4 (.bool false) := (hb.block _ hb1.lt).trans hb1
      have y2 : Boxed w1 (w.heap.size + 1 + 1) 35 (.slice Av l.length cv) := (hb.block _ hb2.lt).trans hb2
      have yc0 := y0.cell
      have yf0 := y0.frozen
      have yc1 := y1.cell
      have yf1 := y1.frozen
      gi_wp2
      have hK1 : w1.heap[D]? = some (.deferred (some [])) := (hb.block D (Array.getElem?_eq_some_iff.1 hK).1).trans hK
      refine ⟨trivial, ?_⟩
      gi_wp2
      exact rc_end rfl rfl (by omega) hK1 y0 y1 (by rw [HF.out]) (by rw [HF.out]; exact OwnL.of_nil) (hB.trans (hb.mono hB.size))
    · rw [hok] at HV
      have HLS := Lib.hid (cerS_yes hok)
      have HQ := str_eqb (cerT l) s
      clear hrow
      gi_wp2_with (fail)
      refine ⟨trivial, ?_⟩
      refine (callsIn_wide.2 HV.out).mono ?_
      rintro e w1 ⟨rfl, hb⟩
      have y0 : Boxed w1 w.heap.size 35 (.slice none 0 0) := (hb.block _ hb0.lt).trans hb0
      have y1 : Boxed w1 (w.heap.size + 1) 4 (.bool false) := (hb.block _ hb1.lt).trans hb1
      have y2 : Boxed w1 (w.heap.size + 1 + 1) 35 (.slice Av l.length cv) := (hb.block _ hb2.lt).trans hb2
      have yc0 := y0.cell
      have yf0 := y0.frozen
      have yc1 := y1.cell
      have yf1 := y1.frozen
      have yc2 := y2.cell
      have HT1 := Lib.hid (HT.out w1 hb)
      rw [HLS.out] at HT1
      gi_wp2_with (fail)
      refine ⟨trivial, ?_⟩
      refine (callsIn_wide.2 HT1.out).mono ?_
      rintro e w2 ⟨rfl, hbb⟩
      have hb' : Below W.heap.size W w2 := hb.trans (hbb.mono hb.size)
      have hK2 : w2.heap[D]? = some (.deferred (some [])) := (hb'.block D (Array.getElem?_eq_some_iff.1 hK).1).trans hK
      have u0 : Boxed w2 w.heap.size 35 (.slice none 0 0) := (hb'.block _ hb0.lt).trans hb0
      have u1 : Boxed w2 (w.heap.size + 1) 4 (.bool false) := (hb'.block _ hb1.lt).trans hb1
      have u2 : Boxed w2 (w.heap.size + 1 + 1) 35 (.slice Av l.length cv) := (hb'.block _ hb2.lt).trans hb2
      have uc0 := u0.cell
      have uf0 := u0.frozen
      have uc1 := u1.cell
      have uf1 := u1.frozen
      have uc2 := u2.cell
      have hBB := hB.trans (hb'.mono hB.size)
      clear yc0 yf0 yc1 yf1 yc2 xc2
      by_cases he : cerT l = s.data.toList
      · have HF := Lib.hid (HS.out hok he)
        rw [decide_eq_true he] at HQ
        clear he HN HS HT HLS
        gi_wp2
        exact rc_end rfl rfl (by omega) hK2 u0 u1 (by rw [HF.out]) (by rw [HF.out]; exact OwnL.below HR.out hb') hBB
      · have HF := Lib.hid (HN.out (.inr he))
        rw [decide_eq_false he] at HQ
        clear he HN HS HT HLS
        gi_wp2
        exact rc_end rfl rfl (by omega) hK2 u0 u1 (by rw [HF.out]) (by rw [HF.out]; exact OwnL.of_nil) hBB
  case stop =>
    rintro D pre W hD hpre ⟨⟨hE, hb0, hb1⟩, hB⟩ hK
    have HR := Lib.hid (rcI_none (s := s.data.toList) (by obtain ⟨r, hr⟩ := hpre; rw [← hr]; exact srcsI_none hE r))
    clear hE hpre
    gi_wp2
    exact rc_ret rfl rfl (by omega) hK hb0 hb1 (by rw [HR.out]) (by rw [HR.out]; exact OwnL.of_nil) hB
end Go.Proofs.YtddihmpiaemadaaGreatDoor
