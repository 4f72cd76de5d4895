/- impl.MergeDumps: the walk. -/
import Derived.Test.YtignjjkldmninaaVDumps
import Derived.Test.YtignjjkldmninaaCols
import Derived.Test.YtignjjkldmninaaBest
import Derived.Test.YtignjjkldmninaaFillI
import Derived.Test.YtignjjkldmninaaHMerge
import Derived.Test.YtignjjkldmninaaDjk
import Derived.Test.YtignjjkldmninaaMgI
import Derived.Deep.Cut
/- The state in which dumps are merged: a boxed merge and its three lists. -/
/- Merged dumps: plain laws. -/
namespace Go.Proofs.Ytignjjkldmninaa
set_option linter.unusedVariables false
open Go.RowKit
/-- the merged sectors below k, where they come from and how many agree -/
def mdP (l : List Dsc) (k : Nat) : List (Sec × Int × Int) := (List.range k).map fun j => mgS (colF j l)
theorem mdP_len (l : List Dsc) (k : Nat) : (mdP l k).length = k := by simp [mdP]
theorem mdP_succ (l : List Dsc) (k : Nat) : mdP l (k + 1) = mdP l k ++ [mgS (colF k l)] := by simp [mdP, List.range_succ]
theorem mdP_get {l : List Dsc} {k n : Nat} (h : k < n) : (mdP l n)[k]? = some (mgS (colF k l)) := by simp [mdP, h]
def mdS (l : List Dsc) (k : Nat) : List Sec := (mdP l k).map (·.1)
def mdF (l : List Dsc) (k : Nat) : List Int := (mdP l k).map (·.2.1)
def mdA (l : List Dsc) (k : Nat) : List Int := (mdP l k).map (·.2.2)
theorem mdS_len (l : List Dsc) (k : Nat) : (mdS l k).length = k := by simp [mdS, mdP_len]
theorem mdF_len (l : List Dsc) (k : Nat) : (mdF l k).length = k := by simp [mdF, mdP_len]
theorem mdA_len (l : List Dsc) (k : Nat) : (mdA l k).length = k := by simp [mdA, mdP_len]
theorem mdS_succ (l : List Dsc) (k : Nat) : mdS l (k + 1) = mdS l k ++ [(mgS (colF k l)).1] := by simp [mdS, mdP_succ]
theorem mdF_succ (l : List Dsc) (k : Nat) : mdF l (k + 1) = mdF l k ++ [(mgS (colF k l)).2.1] := by simp [mdF, mdP_succ]
theorem mdA_succ (l : List Dsc) (k : Nat) : mdA l (k + 1) = mdA l k ++ [(mgS (colF k l)).2.2] := by simp [mdA, mdP_succ]
theorem mdS_get {l : List Dsc} {k n : Nat} (h : k < n) : (mdS l n)[k]? = some (mgS (colF k l)).1 := by simp [mdS, mdP_get h]
theorem mdF_get {l : List Dsc} {k n : Nat} (h : k < n) : (mdF l n)[k]? = some (mgS (colF k l)).2.1 := by simp [mdF, mdP_get h]
theorem mdA_get {l : List Dsc} {k n : Nat} (h : k < n) : (mdA l n)[k]? = some (mgS (colF k l)).2.2 := by simp [mdA, mdP_get h]
theorem stF_in {st : Int} {l : List Sec} {b : ByteArray} : b ∈ stF st l ↔ ∃ s ∈ l, s.state = st ∧ s.data = b := by
  induction l with
  | nil => simp [stF]
  | cons e r ih =>
    unfold stF
    by_cases h : (e.state == st) = true
    · rw [if_pos h, List.mem_cons, ih]
      have h' : e.state = st := by simpa using h
      constructor
      · rintro (rfl | ⟨s, hs, h1, h2⟩)
        · exact ⟨e, by simp, h', rfl⟩
        · exact ⟨s, by simp [hs], h1, h2⟩
      · rintro ⟨s, hs, h1, h2⟩
        rcases List.mem_cons.1 hs with rfl | hs
        · exact .inl h2.symm
        · exact .inr ⟨s, hs, h1, h2⟩
    · rw [if_neg h, ih]
      have h' : e.state ≠ st := by simpa using h
      constructor
      · rintro ⟨s, hs, h1, h2⟩; exact ⟨s, by simp [hs], h1, h2⟩
      · rintro ⟨s, hs, h1, h2⟩
        rcases List.mem_cons.1 hs with rfl | hs
        · exact absurd h1 h'
        · exact ⟨s, hs, h1, h2⟩
theorem mostS_in {l : List ByteArray} (h : l ≠ []) : mostS l ∈ l := mostK_in h _ (Nat.le_refl _)
theorem secOk_size {s : Sec} {n : Nat} (h : secOk s n = true) : s.data.size = n := by
  unfold secOk at h; simp only [Bool.and_eq_true, decide_eq_true_eq] at h; exact h.1.2
theorem mgS_ok {c : List Sec} {n : Nat} (hc : ∀ s ∈ c, secOk s n = true) (h0 : c ≠ []) : secOk (mgS c).1 n = true := by
  have hz : ∀ st, ∀ b ∈ stF st c, b.size = n := fun st b hb => by
    obtain ⟨s, hs, _, rfl⟩ := stF_in.1 hb; exact secOk_size (hc s hs)
  by_cases h1 : stF 1 c ≠ []
  · have := hz 1 _ (mostS_in h1)
    rw [mgS_g h1]; unfold mgG
    split <;> exact secOk_yes rfl this rfl
  · have h1 : stF 1 c = [] := by simpa using h1
    by_cases h2 : stF 4 c ≠ []
    · rw [mgS_w h1 h2]; exact secOk_yes rfl (hz 4 _ (mostS_in h2)) rfl
    · have h2 : stF 4 c = [] := by simpa using h2
      by_cases h3 : stF 2 c ≠ []
      · rw [mgS_b h1 h2 h3]
        refine secOk_yes rfl ?_ rfl
        show (strN (voteV (stF 2 c))).size = n
        rw [strN_size, voteV, List.length_map, List.length_range]
        cases hD : stF 2 c with
        | nil => exact absurd hD h3
        | cons a r => exact hz 2 a (by rw [hD]; simp)
      · have h3 : stF 2 c = [] := by simpa using h3
        rw [mgS_m h1 h2 h3]
        have e : (c.getD 0 ⟨.empty, 0⟩).data.size = n := by
          cases c with
          | nil => exact absurd rfl h0
          | cons a r => exact secOk_size (hc a (by simp))
        unfold mgM
        rw [e]
        exact (secOk_eq rfl (by rw [strN_size, List.length_replicate]) rfl).trans (by simp)
theorem stF_rep (st : Int) (s : Sec) (m : Nat) : stF st (List.replicate m s) = if s.state = st then List.replicate m s.data else [] := by
  induction m with
  | zero => simp [stF]
  | succ m ih =>
    rw [List.replicate_succ, stF, ih]
    by_cases h : s.state = st
    · simp [h, List.replicate_succ]
    · simp [h]
theorem cntF_rep (d : ByteArray) (m : Nat) : cntF d (List.replicate m d) = m := by
  unfold cntF; rw [List.filter_eq_self.2 (fun a ha => by obtain ⟨_, rfl⟩ := List.mem_replicate.1 ha; simp), List.length_replicate]
theorem voteK_one {c : Nat → Nat} {x m : Nat} (hm : 0 < m) (hx : x < 256) (hc : ∀ b, b < 256 → c b = if b = x then m else 0) : voteK c 256 = x := by
  have lo : ∀ b, b ≤ x → voteK c b = 0 := by
    intro b
    induction b with
    | zero => intro _; rfl
    | succ b ih =>
      intro hb
      rw [voteK, ih (by omega), if_neg]
      rw [hc b (by omega), if_neg (by omega)]; omega
  have at_ : voteK c (x + 1) = x := by
    rw [voteK, lo x (Nat.le_refl _)]
    by_cases h : x = 0
    · subst h; simp
    · rw [if_pos]
      rw [hc 0 (by omega), hc x hx, if_neg (by omega), if_pos rfl]; exact hm
  have hi : ∀ k, x + 1 + k ≤ 256 → voteK c (x + 1 + k) = x := by
    intro k
    induction k with
    | zero => intro _; exact at_
    | succ k ih =>
      intro hk
      rw [show x + 1 + (k + 1) = (x + 1 + k) + 1 by omega, voteK, ih (by omega), if_neg]
      rw [hc x hx, if_pos rfl, hc _ (by omega), if_neg (by omega)]; omega
  have := hi (255 - x) (by omega)
  rwa [show x + 1 + (255 - x) = 256 by omega] at this
theorem voteV_rep (d : ByteArray) {m : Nat} (hm : 0 < m) : voteV (List.replicate m d) = bts d := by
  have h0 : (List.replicate m d).getD 0 .empty = d := by
    cases m with
    | zero => omega
    | succ m => rfl
  unfold voteV
  rw [h0]
  apply List.ext_getElem
  · simp [bts_len]
  · intro i h1 h2
    have hi : i < d.size := by simpa using h1
    have e := bts_get hi
    rw [List.getElem?_eq_getElem h2] at e
    injection e with e
    rw [e]
    simp only [List.getElem_map, List.getElem_range]
    unfold byteV
    have hlt : d[i].toNat < 256 := d[i].toNat_lt
    have hg : d.data.toList.getD i 0 = d[i] := by
      rw [List.getD_eq_getElem?_getD, List.getElem?_eq_getElem (by simpa using hi)]
      simp; rfl
    refine voteK_one hm hlt (fun b hb => ?_)
    unfold cntB
    rw [List.countP_replicate, hg]
    congr 1
    rw [beq_iff_eq, eq_iff_iff]
    constructor
    · intro h; rw [h]; simp; omega
    · intro h; rw [h]; simp
theorem mgS_rep {s : Sec} {n m : Nat} (hs : secOk s n = true) (hm : 0 < m) : (mgS (List.replicate m s)).1 = s := by
  have hne : List.replicate m s.data ≠ [] := by simp; omega
  have hms : mostS (List.replicate m s.data) = s.data := (List.mem_replicate.1 (mostS_in hne)).2
  have hk := hs
  unfold secOk inB at hk
  simp only [Bool.and_eq_true, decide_eq_true_eq, Bool.or_eq_true, bne_iff_ne, ne_eq, beq_iff_eq] at hk
  obtain ⟨⟨⟨h1, h2⟩, h3⟩, h4⟩ := hk
  have hst : s.state = 1 ∨ s.state = 2 ∨ s.state = 3 ∨ s.state = 4 := by omega
  rcases hst with e | e | e | e
  · have x1 : stF 1 (List.replicate m s) = List.replicate m s.data := by rw [stF_rep, if_pos e]
    rw [mgS_g (by rw [x1]; exact hne)]
    unfold mgG; rw [x1, hms, cntF_rep, List.length_replicate, if_neg (Nat.lt_irrefl _), ← e]
  · have x1 : stF 1 (List.replicate m s) = [] := by rw [stF_rep, if_neg (by omega)]
    have x4 : stF 4 (List.replicate m s) = [] := by rw [stF_rep, if_neg (by omega)]
    have x2 : stF 2 (List.replicate m s) = List.replicate m s.data := by rw [stF_rep, if_pos e]
    rw [mgS_b x1 x4 (by rw [x2]; exact hne)]
    unfold mgB; rw [x2, voteV_rep _ hm, strN_bts, ← e]
  · have x1 : stF 1 (List.replicate m s) = [] := by rw [stF_rep, if_neg (by omega)]
    have x4 : stF 4 (List.replicate m s) = [] := by rw [stF_rep, if_neg (by omega)]
    have x2 : stF 2 (List.replicate m s) = [] := by rw [stF_rep, if_neg (by omega)]
    rw [mgS_m x1 x4 x2]
    have h0 : (List.replicate m s).getD 0 ⟨.empty, 0⟩ = s := by
      cases m with
      | zero => omega
      | succ m => rfl
    have h5 := h4.resolve_left (by simp [e])
    unfold mgM
    have h6 : s.data = strN (List.replicate n 0) := (toL_eq _ _).1 (by simpa using h5)
    rw [h0, h3, ← h6, ← e]
  · have x1 : stF 1 (List.replicate m s) = [] := by rw [stF_rep, if_neg (by omega)]
    have x4 : stF 4 (List.replicate m s) = List.replicate m s.data := by rw [stF_rep, if_pos e]
    rw [mgS_w x1 (by rw [x4]; exact hne)]
    unfold mgW; rw [x4, hms, ← e]
/-- a column whose good sectors are all the right one -/
theorem mgS_zero {c : List Sec} (h : stF 1 c = []) : (mgS c).1.state ≠ 1 := by
  by_cases h2 : stF 4 c ≠ []
  · rw [mgS_w h h2]; show (4 : Int) ≠ 1; decide
  · have h2 : stF 4 c = [] := by simpa using h2
    by_cases h3 : stF 2 c ≠ []
    · rw [mgS_b h h2 h3]; show (2 : Int) ≠ 1; decide
    · rw [mgS_m h h2 (by simpa using h3)]; show (3 : Int) ≠ 1; decide
theorem firF_ge (st : Int) (d : ByteArray) (k : Nat) (l : List Sec) (h : ∃ s ∈ l, s.state = st ∧ s.data = d) : ∃ j : Nat, firF st d k l = ((k + j : Nat) : Int) ∧ ∃ s, l[j]? = some s ∧ s.state = st ∧ s.data = d := by
  induction l generalizing k with
  | nil => obtain ⟨s, hs, _⟩ := h; cases hs
  | cons e r ih =>
    unfold firF
    by_cases hc : (e.state == st && e.data.toList == d.toList) = true
    · rw [if_pos hc]
      rw [Bool.and_eq_true] at hc
      exact ⟨0, rfl, e, rfl, by simpa using hc.1, (toL_eq _ _).1 hc.2⟩
    · rw [if_neg hc]
      obtain ⟨s, hs, h1, h2⟩ := h
      have : ∃ s ∈ r, s.state = st ∧ s.data = d := by
        rcases List.mem_cons.1 hs with rfl | hs
        · exact absurd (by rw [Bool.and_eq_true]; exact ⟨by simpa using h1, (toL_eq _ _).2 h2⟩) hc
        · exact ⟨s, hs, h1, h2⟩
      obtain ⟨j, e1, s', h3, h4⟩ := ih (k + 1) this
      exact ⟨j + 1, by rw [e1]; congr 1; omega, s', h3, h4⟩
theorem mgS_right {c : List Sec} {t : Sec} (ht : t.state = 1) (hc : ∀ s ∈ c, s.state = 1 → s = t) (h : stF 1 c ≠ []) :
    (mgS c).1 = t ∧ (mgS c).2.2 = ((stF 1 c).length : Nat) ∧ ∃ j : Nat, (mgS c).2.1 = (j : Int) ∧ c[j]? = some t := by
  have hall : ∀ b ∈ stF 1 c, b = t.data := fun b hb => by
    obtain ⟨s, hs, h1, rfl⟩ := stF_in.1 hb; rw [hc s hs h1]
  have hrep : stF 1 c = List.replicate (stF 1 c).length t.data := List.eq_replicate_iff.2 ⟨rfl, hall⟩
  have hms : mostS (stF 1 c) = t.data := hall _ (mostS_in h)
  have hcnt : cntF t.data (stF 1 c) = (stF 1 c).length := by
    rw [hrep, cntF_rep, List.length_replicate]
  rw [mgS_g h]
  unfold mgG
  rw [hms, hcnt, if_neg (Nat.lt_irrefl _)]
  refine ⟨by rw [← ht], rfl, ?_⟩
  obtain ⟨b, hb⟩ := List.exists_mem_of_ne_nil _ h
  obtain ⟨s, hs, h1, h2⟩ := stF_in.1 hb
  obtain ⟨j, e, s', h3, h4, h5⟩ := firF_ge 1 t.data 0 c ⟨s, hs, h1, by rw [hc s hs h1]⟩
  refine ⟨j, by rw [e, Nat.zero_add], ?_⟩
  rw [h3, hc s' (List.mem_of_getElem? h3) h4]
/-- the merged dumps -/
def mdD (l : List Dsc) : Dsc := match l with
  | [] => ⟨0, 0, 0, 0, []⟩
  | z :: _ => ⟨z.cyl, z.heads, z.per, z.size, mdS l z.secs.length⟩
def mdN (l : List Dsc) : Nat := (l.headD default).secs.length
end Go.Proofs.Ytignjjkldmninaa
namespace Go.Proofs.Ytignjjkldmninaa
open Go.RowKit
abbrev mrL (z : Dsc) (x y v : Value) : List Value := [.int .i64 z.cyl, .int .i64 z.heads, .int .i64 z.per, .int .i64 z.size, x, y, v]
def mzL : List Value := mrL ⟨0, 0, 0, 0, []⟩ (.slice none 0 0) (.slice none 0 0) (.slice none 0 0)
structure MdSt (z : Dsc) (w : World) (gm gz : Nat) (P : List Sec) (F G : List Int) (vs vf va : Value) (W : World) : Prop where
  bel : Below w.heap.size w W
  row : Row W gm (mrL z vs vf va)
  fr : ∀ o, W.frozen? ⟨gm, o, none⟩ = false
  zr : Row W gz mzL
  fz : ∀ o, W.frozen? ⟨gz, o, none⟩ = false
  s : SecOwn w.heap.size W vs P
  f : Int64L w.heap.size W vf F
  g : Int64L w.heap.size W va G
  sf : Dj vs vf
  sg : Dj vs va
  fg : Dj vf va
  gm1 : w.heap.size ≤ gm ∧ gm < W.heap.size ∧ gm ≠ gz
  gz1 : w.heap.size ≤ gz ∧ gz < W.heap.size
  ns : vs.ownBlock ≠ some gm ∧ vs.ownBlock ≠ some gz
  nf : vf.ownBlock ≠ some gm ∧ vf.ownBlock ≠ some gz
  ng : va.ownBlock ≠ some gm ∧ va.ownBlock ≠ some gz
section
variable {z : Dsc} {w : World} {gm gz : Nat} {P : List Sec} {F G : List Int} {vs vf va : Value} {W W' : World}
theorem MdSt.below (h : MdSt z w gm gz P F G vs vf va W) (hb : Below W.heap.size W W') : MdSt z w gm gz P F G vs vf va W' :=
  ⟨h.bel.trans (hb.mono h.bel.size), h.row.below hb h.gm1.2.1, frozen_below h.fr hb h.gm1.2.1, h.zr.below hb h.gz1.2, frozen_below h.fz hb h.gz1.2, OwnL.below h.s hb, OwnL.below h.f hb, OwnL.below h.g hb, h.sf, h.sg, h.fg, ⟨h.gm1.1, Nat.lt_of_lt_of_le h.gm1.2.1 hb.size, h.gm1.2.2⟩, ⟨h.gz1.1, Nat.lt_of_lt_of_le h.gz1.2 hb.size⟩, h.ns, h.nf, h.ng⟩
theorem MdSt.alloc (h : MdSt z w gm gz P F G vs vf va W) (o : Obj) : MdSt z w gm gz P F G vs vf va (W.alloc o) := h.below (Below.alloc (Below.refl _ _) (Nat.le_refl _) o)
/-- the second list grew, and its place in the box was stored -/
theorem MdSt.appF {vf' : Value} {F' : List Int} (h : MdSt z w gm gz P F G vs vf va W) (ho : Int64L w.heap.size W' vf' F') (hg : W.grownBy W' vf.ownBlock) (hb : vf'.ownBlock = vf.ownBlock ∨ vf'.ownBlock = some W.heap.size) :
    MdSt z w gm gz P F' G vs vf' va (W'.setCell ⟨gm, 5, none⟩ vf') := by
  have hl1 := lt_of_own h.s
  have hl3 := lt_of_own h.g
  have n1 := new_ne h.nf.1 hb h.gm1.2.1
  have n2 := new_ne h.nf.2 hb h.gz1.2
  have hz := hg.size
  refine ⟨Below.setCell (own_grown_below h.f h.bel hg (Nat.le_refl _) h.bel.size) h.gm1.1 _, (h.row.grown hg h.gm1.2.1 h.nf.1).set (o := 5) vf' (by simp), fun o => (setCell_frozen _ _ _ _).trans (frozen_grown h.fr hg h.gm1.2.1 h.nf.1 o), (h.zr.grown hg h.gz1.2 h.nf.2).set_other _ (fun e => h.gm1.2.2 e.symm), fun o => (setCell_frozen _ _ _ _).trans (frozen_grown h.fz hg h.gz1.2 h.nf.2 o), OwnL.notIn (OwnL.kept h.s hg (dj_kept h.sf)) h.ns.1, OwnL.notIn ho n1, OwnL.notIn (OwnL.kept h.g hg (dj_kept h.fg.symm)) h.ng.1, (h.sf.symm.new hb (fun b e => (hl1 b e).2)).symm, h.sg, h.fg.new hb (fun b e => (hl3 b e).2), ⟨h.gm1.1, by simp; have := h.gm1.2.1; omega, h.gm1.2.2⟩, ⟨h.gz1.1, by simp; have := h.gz1.2; omega⟩, h.ns, ⟨n1, n2⟩, h.ng⟩
/-- the third list grew -/
theorem MdSt.appG {va' : Value} {G' : List Int} (h : MdSt z w gm gz P F G vs vf va W) (ho : Int64L w.heap.size W' va' G') (hg : W.grownBy W' va.ownBlock) (hb : va'.ownBlock = va.ownBlock ∨ va'.ownBlock = some W.heap.size) :
    MdSt z w gm gz P F G' vs vf va' (W'.setCell ⟨gm, 6, none⟩ va') := by
  have hl1 := lt_of_own h.s
  have hl2 := lt_of_own h.f
  have n1 := new_ne h.ng.1 hb h.gm1.2.1
  have n2 := new_ne h.ng.2 hb h.gz1.2
  have hz := hg.size
  refine ⟨Below.setCell (own_grown_below h.g h.bel hg (Nat.le_refl _) h.bel.size) h.gm1.1 _, (h.row.grown hg h.gm1.2.1 h.ng.1).set (o := 6) va' (by simp), fun o => (setCell_frozen _ _ _ _).trans (frozen_grown h.fr hg h.gm1.2.1 h.ng.1 o), (h.zr.grown hg h.gz1.2 h.ng.2).set_other _ (fun e => h.gm1.2.2 e.symm), fun o => (setCell_frozen _ _ _ _).trans (frozen_grown h.fz hg h.gz1.2 h.ng.2 o), OwnL.notIn (OwnL.kept h.s hg (dj_kept h.sg)) h.ns.1, OwnL.notIn (OwnL.kept h.f hg (dj_kept h.fg)) h.nf.1, OwnL.notIn ho n1, h.sf, (h.sg.symm.new hb (fun b e => (hl1 b e).2)).symm, (h.fg.symm.new hb (fun b e => (hl2 b e).2)).symm, ⟨h.gm1.1, by simp; have := h.gm1.2.1; omega, h.gm1.2.2⟩, ⟨h.gz1.1, by simp; have := h.gz1.2; omega⟩, h.ns, h.nf, ⟨n1, n2⟩⟩
/-- the first list grew -/
theorem MdSt.appS {vs' : Value} {P' : List Sec} (h : MdSt z w gm gz P F G vs vf va W) (ho : SecOwn w.heap.size W' vs' P') (hg : W.grownBy W' vs.ownBlock) (hb : vs'.ownBlock = vs.ownBlock ∨ vs'.ownBlock = some W.heap.size) :
    MdSt z w gm gz P' F G vs' vf va (W'.setCell ⟨gm, 4, none⟩ vs') := by
  have hl2 := lt_of_own h.f
  have hl3 := lt_of_own h.g
  have n1 := new_ne h.ns.1 hb h.gm1.2.1
  have n2 := new_ne h.ns.2 hb h.gz1.2
  have hz := hg.size
  refine ⟨Below.setCell (own_grown_below h.s h.bel hg (Nat.le_refl _) h.bel.size) h.gm1.1 _, (h.row.grown hg h.gm1.2.1 h.ns.1).set (o := 4) vs' (by simp), fun o => (setCell_frozen _ _ _ _).trans (frozen_grown h.fr hg h.gm1.2.1 h.ns.1 o), (h.zr.grown hg h.gz1.2 h.ns.2).set_other _ (fun e => h.gm1.2.2 e.symm), fun o => (setCell_frozen _ _ _ _).trans (frozen_grown h.fz hg h.gz1.2 h.ns.2 o), OwnL.notIn ho n1, OwnL.notIn (OwnL.kept h.f hg (dj_kept h.sf.symm)) h.nf.1, OwnL.notIn (OwnL.kept h.g hg (dj_kept h.sg.symm)) h.ng.1, h.sf.new hb (fun b e => (hl2 b e).2), h.sg.new hb (fun b e => (hl3 b e).2), h.fg, ⟨h.gm1.1, by simp; have := h.gm1.2.1; omega, h.gm1.2.2⟩, ⟨h.gz1.1, by simp; have := h.gz1.2; omega⟩, ⟨n1, n2⟩, h.nf, h.ng⟩
/-- a sector was stored in the first list -/
theorem MdSt.setS {gs n c k : Nat} {x y : Sec} (h : MdSt z w gm gz P F G (.slice (some ⟨gs, 0, none⟩) n c) vf va W) (hk : P[k]? = some y) :
    MdSt z w gm gz (P.set k x) F G (.slice (some ⟨gs, 0, none⟩) n c) vf va ((W.setCell ⟨gs, k * 2, none⟩ (.string x.data)).setCell ⟨gs, k * 2 + 1, none⟩ (.int .i64 x.state)) := by
  have hgs := (lt_of_own h.s gs rfl)
  have ne1 : gm ≠ gs := fun e => h.ns.1 (by rw [e]; rfl)
  have ne2 : gz ≠ gs := fun e => h.ns.2 (by rw [e]; rfl)
  have s1 := OwnL.set1 (j := 0) (a' := ⟨x.data, y.state⟩) (u := .string x.data) Sec.len h.s hk (by omega) rfl
  have hk2 : (P.set k ⟨x.data, y.state⟩)[k]? = some ⟨x.data, y.state⟩ := by rw [List.getElem?_set, if_pos rfl, if_pos (List.getElem?_eq_some_iff.1 hk).1]
  have s2 := OwnL.set1 (j := 1) (a' := x) (u := .int .i64 x.state) Sec.len s1 hk2 (by omega) rfl
  rw [List.set_set, Nat.add_zero] at s2
  have nf : vf.ownBlock ≠ some gs := h.sf gs rfl
  have ng : va.ownBlock ≠ some gs := h.sg gs rfl
  exact ⟨Below.setCell (Below.setCell h.bel hgs.1 _) hgs.1 _, (h.row.set_other _ ne1).set_other _ ne1, fun o => (setCell_frozen _ _ _ _).trans ((setCell_frozen _ _ _ _).trans (h.fr o)), (h.zr.set_other _ ne2).set_other _ ne2, fun o => (setCell_frozen _ _ _ _).trans ((setCell_frozen _ _ _ _).trans (h.fz o)), s2, OwnL.notIn (OwnL.notIn h.f nf) nf, OwnL.notIn (OwnL.notIn h.g ng) ng, h.sf, h.sg, h.fg, ⟨h.gm1.1, by simp; exact h.gm1.2.1, h.gm1.2.2⟩, ⟨h.gz1.1, by simp; exact h.gz1.2⟩, h.ns, h.nf, h.ng⟩
end
/-- what merging returns -/
def MdR (w : World) (r : Mrg × Int) (e : Ending) (w' : World) : Prop := ∃ A c A1 c1 A2 c2, e = .returned (.tuple #[mrgV r.1 (.slice A r.1.d.secs.length c) (.slice A1 r.1.fr.length c1) (.slice A2 r.1.ag.length c2), .int .i64 r.2]) ∧ MrgOwn w.heap.size w' r.1 (.slice A r.1.d.secs.length c) (.slice A1 r.1.fr.length c1) (.slice A2 r.1.ag.length c2) ∧ (Dj (.slice A r.1.d.secs.length c) (.slice A1 r.1.fr.length c1) ∧ Dj (.slice A r.1.d.secs.length c) (.slice A2 r.1.ag.length c2) ∧ Dj (.slice A1 r.1.fr.length c1) (.slice A2 r.1.ag.length c2)) ∧ Below w.heap.size w w'
def mdM (l : List Dsc) (z : Dsc) : Mrg := ⟨⟨z.cyl, z.heads, z.per, z.size, mdS l z.secs.length⟩, mdF l z.secs.length, mdA l z.secs.length⟩
def mrgZ0 : Mrg := ⟨⟨0, 0, 0, 0, []⟩, [], []⟩
def mdE (l : List Dsc) : Mrg × Int := if dumpsOk l = true then (mdM l (l.headD default), 0) else (mrgZ0, 1)
theorem mdE_no {l : List Dsc} (h : dumpsOk l = false) : mdE l = (mrgZ0, 1) := by unfold mdE; rw [h]; rfl
theorem mdE_yes {l : List Dsc} {z : Dsc} (h : dumpsOk l = true) (hz : l[0]? = some z) : mdE l = (mdM l z, 0) := by
  unfold mdE; rw [if_pos h]
  cases l with
  | nil => cases hz
  | cons a r => simp at hz; subst hz; rfl
end Go.Proofs.Ytignjjkldmninaa
namespace Go.Proofs.Ytignjjkldmninaa
open Go.RowKit
theorem alloc_fz {w : World} {cs : Array Value} {e : TypeId} : ∀ o, (w.alloc (.cells cs e)).frozen? ⟨w.heap.size, o, none⟩ = false := by intro o; simp [go_sem]
theorem dumps_size {l : List Dsc} {z : Dsc} {k : Nat} (h : dumpsOk l = true) (hz : l[0]? = some z) (hk : k < z.secs.length) : (∀ d ∈ l, k < d.secs.length) ∧ ∃ n, n ≤ 64 ∧ ∀ s ∈ colF k l, s.data.size = n := by
  have hl : ∀ d ∈ l, d.secs.length = z.secs.length := fun d hd => du_secs h hz hd
  have hk' : ∀ d ∈ l, k < d.secs.length := fun d hd => by rw [hl d hd]; exact hk
  refine ⟨hk', szN z.size, ?_, fun s hs => ?_⟩
  · have h1 := ok_geo (du_mem h hz (List.mem_of_getElem? hz)).1
    have := szN_le (geo_parts h1).2.2.2
    omega
  · obtain ⟨d, hd, rfl⟩ := List.mem_map.1 hs
    obtain ⟨h1, h2⟩ := du_mem h hz hd
    have h3 := hk' d hd
    have h4 : (d.secs.getD k secZ) ∈ d.secs := by rw [List.getD_eq_getElem?_getD, List.getElem?_eq_getElem h3]; exact List.getElem_mem _
    have h5 : d.size = z.size := by unfold sameG at h2; simp at h2; exact h2.2
    unfold discOk at h1
    simp only [Bool.and_eq_true, List.all_eq_true] at h1
    have := secOk_size (h1.2.2 _ h4)
    rw [this, h5]
theorem md_zero {w W : World} {gz : Nat} {v : Value} {l : List Dsc} (h : dumpsOk l = false) (hb : Below w.heap.size w W) : MdR w (mdE l) (.returned (.tuple #[mrgV mrgZ0 (.slice none 0 0) (.slice none 0 0) (.slice none 0 0), .int .i64 1])) W := by
  rw [mdE_no h]
  exact ⟨none, 0, none, 0, none, 0, rfl, ⟨OwnL.of_nil, OwnL.of_nil, OwnL.of_nil⟩, ⟨Dj.nil, Dj.nil, Dj.nil⟩, hb⟩
theorem MdSt.res {z : Dsc} {w : World} {gm gz : Nat} {P : List Sec} {F G : List Int} {vs vf va : Value} {W : World} {l : List Dsc} (h : MdSt z w gm gz P F G vs vf va W) (hl : dumpsOk l = true) (hz : l[0]? = some z) (hP : P = mdS l z.secs.length) (hF : F = mdF l z.secs.length) (hG : G = mdA l z.secs.length) :
    MdR w (mdE l) (.returned (.tuple #[mrgV (mdM l z) vs vf va, .int .i64 0])) (setL W gz 0 (mrL z vs vf va)) := by
  rw [mdE_yes hl hz]
  have o1 : OwnL Sec.cells 2 48 w.heap.size (setL W gz 0 (mrL z vs vf va)) vs P := OwnL.notIn (OwnL.notIn (OwnL.notIn (OwnL.notIn (OwnL.notIn (OwnL.notIn (OwnL.notIn h.s h.ns.2) h.ns.2) h.ns.2) h.ns.2) h.ns.2) h.ns.2) h.ns.2
  have o2 : Int64L w.heap.size (setL W gz 0 (mrL z vs vf va)) vf F := OwnL.notIn (OwnL.notIn (OwnL.notIn (OwnL.notIn (OwnL.notIn (OwnL.notIn (OwnL.notIn h.f h.nf.2) h.nf.2) h.nf.2) h.nf.2) h.nf.2) h.nf.2) h.nf.2
  have o3 : Int64L w.heap.size (setL W gz 0 (mrL z vs vf va)) va G := OwnL.notIn (OwnL.notIn (OwnL.notIn (OwnL.notIn (OwnL.notIn (OwnL.notIn (OwnL.notIn h.g h.ng.2) h.ng.2) h.ng.2) h.ng.2) h.ng.2) h.ng.2) h.ng.2
  have hsf := h.sf
  have hsg := h.sg
  have hfg := h.fg
  have hb := setL_below (B := w.heap.size) h.gz1.1 (mrL z vs vf va) h.bel (o := 0)
  clear h
  obtain ⟨A, c, rfl, _⟩ := OwnL.shape o1
  obtain ⟨A1, c1, rfl, _⟩ := OwnL.shape o2
  obtain ⟨A2, c2, rfl, _⟩ := OwnL.shape o3
  subst hP hF hG
  exact ⟨A, c, A1, c1, A2, c2, rfl, ⟨o1, o2, o3⟩, ⟨hsf, hsg, hfg⟩, hb⟩
/-- what merging valid dumps returns -/
def MgR (w : World) (m : Mrg) (e : Ending) (w' : World) : Prop := ∃ A c A1 c1 A2 c2, e = .returned (mrgV m (.slice A m.d.secs.length c) (.slice A1 m.fr.length c1) (.slice A2 m.ag.length c2)) ∧ MrgOwn w.heap.size w' m (.slice A m.d.secs.length c) (.slice A1 m.fr.length c1) (.slice A2 m.ag.length c2) ∧ (Dj (.slice A m.d.secs.length c) (.slice A1 m.fr.length c1) ∧ Dj (.slice A m.d.secs.length c) (.slice A2 m.ag.length c2) ∧ Dj (.slice A1 m.fr.length c1) (.slice A2 m.ag.length c2)) ∧ Below w.heap.size w w'
theorem MdSt.resM {z : Dsc} {w : World} {gm gz : Nat} {P : List Sec} {F G : List Int} {vs vf va : Value} {W : World} {l : List Dsc} (h : MdSt z w gm gz P F G vs vf va W) (hl : dumpsOk l = true) (hz : l[0]? = some z) (hP : P = mdS l z.secs.length) (hF : F = mdF l z.secs.length) (hG : G = mdA l z.secs.length) :
    MgR w (mdM l z) (.returned (mrgV (mdM l z) vs vf va)) (setL W gz 0 (mrL z vs vf va)) := by
  have o1 : OwnL Sec.cells 2 48 w.heap.size (setL W gz 0 (mrL z vs vf va)) vs P := OwnL.notIn (OwnL.notIn (OwnL.notIn (OwnL.notIn (OwnL.notIn (OwnL.notIn (OwnL.notIn h.s h.ns.2) h.ns.2) h.ns.2) h.ns.2) h.ns.2) h.ns.2) h.ns.2
  have o2 : Int64L w.heap.size (setL W gz 0 (mrL z vs vf va)) vf F := OwnL.notIn (OwnL.notIn (OwnL.notIn (OwnL.notIn (OwnL.notIn (OwnL.notIn (OwnL.notIn h.f h.nf.2) h.nf.2) h.nf.2) h.nf.2) h.nf.2) h.nf.2) h.nf.2
  have o3 : Int64L w.heap.size (setL W gz 0 (mrL z vs vf va)) va G := OwnL.notIn (OwnL.notIn (OwnL.notIn (OwnL.notIn (OwnL.notIn (OwnL.notIn (OwnL.notIn h.g h.ng.2) h.ng.2) h.ng.2) h.ng.2) h.ng.2) h.ng.2) h.ng.2
  have hsf := h.sf
  have hsg := h.sg
  have hfg := h.fg
  have hb := setL_below (B := w.heap.size) h.gz1.1 (mrL z vs vf va) h.bel (o := 0)
  clear h
  obtain ⟨A, c, rfl, _⟩ := OwnL.shape o1
  obtain ⟨A1, c1, rfl, _⟩ := OwnL.shape o2
  obtain ⟨A2, c2, rfl, _⟩ := OwnL.shape o3
  subst hP hF hG
  exact ⟨A, c, A1, c1, A2, c2, rfl, ⟨o1, o2, o3⟩, ⟨hsf, hsg, hfg⟩, hb⟩
set_option maxRecDepth 20000 in
set_option maxHeartbeats 8000000 in
theorem md_i (B : Nat) (l : List Dsc) (v : Value) (w : World) (h : DscOwn B w v l) (hn : l.length ≤ 1048576) (hb2 : ∀ d ∈ l, d.secs.length ≤ 1048576) (hm : ∀ d ∈ l, ∀ s ∈ d.secs, s.data.size ≤ maxLen) :
    Calls Try.prog 54 #[v] w fun e w' => MdR w (mdE l) e w' := by
  obtain ⟨i0, hi, hz0, hz1, hz2⟩ := info_parts icell_info
  have HB0 : Below w.heap.size w (w.alloc (.cells #[.int .i64 0, .int .i64 0, .int .i64 0, .int .i64 0, .slice none 0 0, .slice none 0 0, .slice none 0 0] 41)) := Below.alloc (Below.refl _ _) (Nat.le_refl _) _
  have Z0 : Row (w.alloc (.cells #[.int .i64 0, .int .i64 0, .int .i64 0, .int .i64 0, .slice none 0 0, .slice none 0 0, .slice none 0 0] 41)) w.heap.size mzL := Row.alloc w _ _
  have F0 : ∀ o, (w.alloc (.cells #[.int .i64 0, .int .i64 0, .int .i64 0, .int .i64 0, .slice none 0 0, .slice none 0 0, .slice none 0 0] 41)).frozen? ⟨w.heap.size, o, none⟩ = false := alloc_fz
  have zw0 : w.heap.size < (w.alloc (.cells #[.int .i64 0, .int .i64 0, .int .i64 0, .int .i64 0, .slice none 0 0, .slice none 0 0, .slice none 0 0] 41)).heap.size := by simp
  have HV := Lib.hid (dumps_i B l v _ (h.below HB0) hn hb2 hm)
  cases hok : dumpsOk l
  · rw [hok] at HV
    have HF := Lib.hid hok
    obtain ⟨A, c, rfl, _⟩ := h
    clear hok
    go_enter Try.func54, Try.ntmps54
    go_wp2_with (fail)
    refine HV.out.mono ?_; rintro e w1 ⟨rfl, hb1⟩
    have Z1 := Z0.below hb1 zw0
    have F1 := frozen_below F0 hb1 zw0
    have r0 := Z1 0 _ rfl
    have r1 := Z1 1 _ rfl
    have r2 := Z1 2 _ rfl
    have r3 := Z1 3 _ rfl
    have r4 := Z1 4 _ rfl
    have r5 := Z1 5 _ rfl
    have r6 := Z1 6 _ rfl
    have B1 := HB0.trans (hb1.mono HB0.size)
    clear HV hb1 HB0 Z0 F0
    go_wp2
    have Z2 := Z1.setL mzL (by simp [mzL])
    have B2 : Below w.heap.size w (setL w1 w.heap.size 0 mzL) := setL_below (Nat.le_refl _) mzL B1
    show bodyPost _ _ _ _ _ (setL w1 w.heap.size 0 mzL)
    clear r0 r1 r2 r3 r4 r5 r6 Z1 F1
    generalize (setL w1 w.heap.size 0 mzL) = W at *
    have s0 := Z2 0 _ rfl
    have s1 := Z2 1 _ rfl
    have s2 := Z2 2 _ rfl
    have s3 := Z2 3 _ rfl
    have s4 := Z2 4 _ rfl
    have s5 := Z2 5 _ rfl
    have s6 := Z2 6 _ rfl
    exact bodyPost_ret (v := .tuple #[mrgV mrgZ0 (.slice none 0 0) (.slice none 0 0) (.slice none 0 0), .int .i64 1]) (by simp [results, Try.results54, go_sem, s0, s1, s2, s3, s4, s5, s6, mrgZ0]; try done) rfl (md_zero (gz := 0) (v := .slice none 0 0) HF.out B2)
  · rw [hok] at HV
    obtain ⟨z, hz⟩ := du_first hok
    have hzn : z.secs.length ≤ 128 := ok_le (du_mem hok hz (List.mem_of_getElem? hz)).1
    have HSZ := Lib.hid (fun k hk => dumps_size (k := k) hok hz hk)
    have HRES := Lib.hid (fun gm gz P F G vs vf va W (H : MdSt z w gm gz P F G vs vf va W) hP hF hG => MdSt.res (l := l) H hok hz hP hF hG)
    have HLS := Lib.hid (fun k W (hb : Below w.heap.size w W) hk => col_i B k l v W (h.below hb) hn hk)
    have hl0 : l ≠ [] := by rintro rfl; cases hz
    have HH := Lib.hid h
    obtain ⟨A, c, rfl, hA⟩ := h
    obtain ⟨g, rfl, _, hg, hc⟩ := hA.resolve_left hl0
    obtain ⟨bv, ob, cb⟩ := hc 0 z hz
    have hl1 : 1 ≤ l.length := List.length_pos_iff.2 hl0
    have p0 := cb 0 _ rfl
    have p1 := cb 1 _ rfl
    have p2 := cb 2 _ rfl
    have p3 := cb 3 _ rfl
    have p4 := cb 4 _ rfl
    simp only [Nat.zero_mul, Nat.zero_add] at p0 p1 p2 p3 p4
    have HL0 := Lib.hid hl0
    clear hok hz hl0 hA hc cb
    go_enter Try.func54, Try.ntmps54
    go_wp2_with (fail)
    refine HV.out.mono ?_; rintro e w1 ⟨rfl, hb1⟩
    have B1 := HB0.trans (hb1.mono HB0.size)
    have Z1 := Z0.below hb1 zw0
    have F1 := frozen_below F0 hb1 zw0
    have zw1 : w.heap.size < w1.heap.size := Nat.lt_of_lt_of_le zw0 hb1.size
    have q0 := (B1.cell (p := ⟨g, 0, none⟩) hg).trans p0
    have q1 := (B1.cell (p := ⟨g, 1, none⟩) hg).trans p1
    have q2 := (B1.cell (p := ⟨g, 2, none⟩) hg).trans p2
    have q3 := (B1.cell (p := ⟨g, 3, none⟩) hg).trans p3
    have q4 := (B1.cell (p := ⟨g, 4, none⟩) hg).trans p4
    have HCL := Lib.hid (cloneD_i B z bv w1 (OwnL.below ob B1) (by omega))
    clear HV hb1 HB0 Z0 F0 p0 p1 p2 p3 p4 ob zw0
    go_wp2_with (fail)
    refine HCL.out.mono ?_; rintro e w2 ⟨A2, c2, rfl, o2, hb2'⟩
    have z2 := hb2'.size
    have HB3 : Below w2.heap.size w2 (w2.alloc (.cells #[.int .i64 z.cyl, .int .i64 z.heads, .int .i64 z.per, .int .i64 z.size, .slice A2 z.secs.length c2, .slice none 0 0, .slice none 0 0] 41)) := Below.alloc (Below.refl _ _) (Nat.le_refl _) _
    have hlt2 := lt_of_own o2
    have HS0 : Hid (MdSt z w w2.heap.size w.heap.size (mdS l 0 ++ z.secs.drop 0) (mdF l 0) (mdA l 0) (.slice A2 z.secs.length c2) (.slice none 0 0) (.slice none 0 0) (w2.alloc (.cells #[.int .i64 z.cyl, .int .i64 z.heads, .int .i64 z.per, .int .i64 z.size, .slice A2 z.secs.length c2, .slice none 0 0, .slice none 0 0] 41))) := Lib.hid ⟨(B1.trans (hb2'.mono (by omega))).trans (HB3.mono (by omega)), Row.alloc w2 _ _, alloc_fz, (Z1.below hb2' zw1).below HB3 (by omega), frozen_below (frozen_below F1 hb2' zw1) HB3 (by omega), OwnL.base (OwnL.below o2 HB3) (by omega), OwnL.of_nil, OwnL.of_nil, Dj.nil.symm, Dj.nil.symm, Dj.nil, ⟨by omega, by simp, by omega⟩, ⟨Nat.le_refl _, by simp; omega⟩, ⟨fun e => by have := (hlt2 _ e); omega, fun e => by have := (hlt2 _ e); omega⟩, ⟨by simp [Value.ownBlock], by simp [Value.ownBlock]⟩, ⟨by simp [Value.ownBlock], by simp [Value.ownBlock]⟩⟩
    have hA2 : Hid (z.secs.length = 0 ∨ ∃ gs, A2 = some ⟨gs, 0, none⟩) := Lib.hid (by
      obtain ⟨A', c', e1, h1⟩ := OwnL.shape o2
      injection e1 with e1 _ _
      rcases h1 with h1 | ⟨gs, h1, _⟩
      · exact .inl (by rw [h1]; rfl)
      · exact .inr ⟨gs, e1.trans h1⟩)
    clear q0 q1 q2 q3 q4 HCL Z1 F1 o2 hb2' HB3 hlt2 zw1 z2 B1
    go_wp2_with (fail)
    have k4 := HS0.out.row 4 _ rfl
    go_upto_region 5 with (fail)
    clear k4
    generalize (w2.alloc (.cells #[.int .i64 z.cyl, .int .i64 z.heads, .int .i64 z.per, .int .i64 z.size, .slice A2 z.secs.length c2, .slice none 0 0, .slice none 0 0] 41)) = W2 at *
    generalize w2.heap.size = gm at *
    go_loopw [22] (fun i wr => ∃ (k : Nat) (vf va : Value), k ≤ z.secs.length ∧ i = .int .i64 k ∧ Hid (MdSt z w gm w.heap.size (mdS l k ++ z.secs.drop k) (mdF l k) (mdA l k) (.slice A2 z.secs.length c2) vf va wr)) (fun i _ => z.secs.length - (intOf i).toNat)
    case atStart => exact ⟨0, _, _, by omega, rfl, HS0⟩
    case round =>
      clear HS0
      obtain ⟨k, vf, va, hk, rfl, HS⟩ := hrel
      obtain ⟨Af, nf, cf, rfl⟩ := own_slice HS.out.f
      obtain ⟨Ag, ng, cg, rfl⟩ := own_slice HS.out.g
      by_cases hlt : k < z.secs.length
      · obtain ⟨gs, rfl⟩ : ∃ gs, A2 = some ⟨gs, 0, none⟩ := hA2.out.resolve_left (by omega)
        obtain ⟨hk1, nn, hnn, hcs⟩ := HSZ.out k hlt
        have HC := Lib.hid (HLS.out k wr HS.out.bel hk1)
        have HM : Hid (∀ (B' : Nat) (v' : Value) (W : World), SecOwn B' W v' (colF k l) → Calls Try.prog 81 #[v'] W fun e w' => e = .returned (.tuple #[.agg #[.string (mgS (colF k l)).1.data, .int .i64 (mgS (colF k l)).1.state], .int .i64 (mgS (colF k l)).2.1, .int .i64 (mgS (colF k l)).2.2]) ∧ Below W.heap.size W w') := Lib.hid (fun B' v' W o => lsec_i B' (colF k l) v' W o (by rw [col_len]; exact hn) (by intro e; have := congrArg List.length e; rw [col_len] at this; simp at this; exact HL0.out this) nn hcs (by omega))
        have hS1 := Lib.hid (mdS_succ l k)
        have hF1 := Lib.hid (mdF_succ l k)
        have hG1 := Lib.hid (mdA_succ l k)
        have hfl : (mdF l k).length + 1 ≤ 16777216 := by rw [mdF_len]; omega
        have hgl : (mdA l k).length + 1 ≤ 16777216 := by rw [mdA_len]; omega
        have hPk : Hid ((mdS l k ++ z.secs.drop k)[k]? = some z.secs[k] ∧ ∀ x, (mdS l k ++ z.secs.drop k).set k x = mdS l k ++ [x] ++ z.secs.drop (k + 1)) := Lib.hid (by
          have hkk : (mdS l k).length = k := mdS_len l k
          refine ⟨?_, fun x => ?_⟩
          · rw [List.getElem?_append_right (by omega), hkk, Nat.sub_self, List.getElem?_drop, Nat.add_zero, List.getElem?_eq_getElem hlt]
          · rw [List.set_append_right _ _ (by omega), hkk, Nat.sub_self, List.drop_eq_getElem_cons hlt, List.set_cons_zero, List.append_assoc]; rfl)
        clear hk1 hcs
        go_wp2_with (fail)
        refine HC.out.mono ?_; rintro e w4 ⟨v4, rfl, o4, hb4⟩
        have HS4 := Lib.hid (HS.out.below hb4)
        obtain ⟨A4, c4, rfl, _⟩ := OwnL.shape o4
        have HM4 := Lib.hid (HM.out _ _ _ o4)
        rw [col_len] at HM4
        clear HC HS HM hb4
        go_wp2_with (fail)
        have HM5 := HM4.out
        rw [col_len]
        refine HM5.mono ?_; rintro e w5 ⟨rfl, hb5⟩
        have HS5 := Lib.hid (HS4.out.below hb5)
        clear HM4 HM5 HS4 hb5 o4
        generalize mgS (colF k l) = y at *
        have HS6 := Lib.hid (HS5.out.alloc (.cells #[.string y.1.data, .int .i64 y.1.state] 48))
        have k4 := HS6.out.row 4 _ rfl
        have fs := fun o => OwnL.frozen (j := o) (HS6.out.s)
        obtain ⟨u0, c0⟩ : ∃ u, (w5.alloc (.cells #[.string y.1.data, .int .i64 y.1.state] 48)).cell? ⟨gs, k * 2, none⟩ = some u := ⟨_, OwnL.at1 (j := 0) Sec.len HS6.out.s hPk.out.1 rfl⟩
        obtain ⟨u1, c1⟩ : ∃ u, (w5.alloc (.cells #[.string y.1.data, .int .i64 y.1.state] 48)).cell? ⟨gs, k * 2 + 1, none⟩ = some u := ⟨_, OwnL.at1 (j := 1) Sec.len HS6.out.s hPk.out.1 rfl⟩
        have fs0 := fs (k * 2)
        have fs1 := fs (k * 2 + 1)
        have hgs : gs ≠ w5.heap.size := by have h1 := (lt_of_own HS5.out.s gs rfl).2; omega
        have HS7 := Lib.hid (HS6.out.setS (x := y.1) hPk.out.1)
        rw [hPk.out.2] at HS7
        clear fs HS6 HS5
        go_upto_region 9 with (fail)
        clear k4 u0 c0 u1 c1 fs0 fs1 hgs
        generalize ((w5.alloc (.cells #[.string y.1.data, .int .i64 y.1.state] 48)).setCell ⟨gs, k * 2, none⟩ (.string y.1.data)).setCell ⟨gs, k * 2 + 1, none⟩ (.int .i64 y.1.state) = W7 at *
        have k5 := HS7.out.row 5 _ rfl
        have hb7 : w.heap.size ≤ (W7.alloc (.cells #[.int .i64 y.2.1] 2)).heap.size := (HS7.out.alloc _).bel.size
        go_upto_region 10 with (at_builtin; refine wpList_app1at icell 1 icell_len _ rfl _ _ _ rfl w.heap.size 2 i0 (.int .i64 0) 8 Try.underlying32 hi hz0 hz1 hz2 rfl (by decide) _ (mdF l k) rfl (HS7.out.alloc _).f _ 1 y.2.1 rfl ?_ (by simp [icell, Value.oneCell']) hfl (by decide) hb7 ?_; (· intro j u hu; cases j with | zero => (simp [icell] at hu; subst hu; simp) | succ j => simp [icell] at hu); intro v8 w8 how8 hg8 hbl8; obtain ⟨A8, n8, c8, rfl⟩ := own_slice how8; have HS8 := Lib.hid ((HS7.out.alloc (.cells #[.int .i64 y.2.1] 2)).appF how8 hg8 hbl8); have t5 := (HS7.out.alloc (.cells #[.int .i64 y.2.1] 2)).row.grown hg8 (HS7.out.alloc (.cells #[.int .i64 y.2.1] 2)).gm1.2.1 HS7.out.nf.1 5 _ rfl; have t6 := frozen_grown (HS7.out.alloc (.cells #[.int .i64 y.2.1] 2)).fr hg8 (HS7.out.alloc (.cells #[.int .i64 y.2.1] 2)).gm1.2.1 HS7.out.nf.1 5; clear how8 hg8 hbl8)
        clear k5 t5 t6 HS7 hb7
        generalize w8.setCell ⟨gm, 5, none⟩ (.slice A8 n8 c8) = W8 at *
        have k6 := HS8.out.row 6 _ rfl
        have hb8 : w.heap.size ≤ (W8.alloc (.cells #[.int .i64 y.2.2] 2)).heap.size := (HS8.out.alloc _).bel.size
        go_wp2_with (at_builtin; refine wpList_app1at icell 1 icell_len _ rfl _ _ _ rfl w.heap.size 2 i0 (.int .i64 0) 8 Try.underlying32 hi hz0 hz1 hz2 rfl (by decide) _ (mdA l k) rfl (HS8.out.alloc _).g _ 1 y.2.2 rfl ?_ (by simp [icell, Value.oneCell']) hgl (by decide) hb8 ?_; (· intro j u hu; cases j with | zero => (simp [icell] at hu; subst hu; simp) | succ j => simp [icell] at hu); intro v9 w9 how9 hg9 hbl9; obtain ⟨A9, n9, c9, rfl⟩ := own_slice how9; have HS9 := Lib.hid ((HS8.out.alloc (.cells #[.int .i64 y.2.2] 2)).appG how9 hg9 hbl9); have t7 := (HS8.out.alloc (.cells #[.int .i64 y.2.2] 2)).row.grown hg9 (HS8.out.alloc (.cells #[.int .i64 y.2.2] 2)).gm1.2.1 HS8.out.ng.1 6 _ rfl; have t8 := frozen_grown (HS8.out.alloc (.cells #[.int .i64 y.2.2] 2)).fr hg9 (HS8.out.alloc (.cells #[.int .i64 y.2.2] 2)).gm1.2.1 HS8.out.ng.1 6; clear how9 hg9 hbl9)
        go_roundw
        case rel => exact ⟨k + 1, _, _, by omega, by go_num, by rw [hS1.out, hF1.out, hG1.out]; exact HS9⟩
        case measure => simp [intOf]; omega
      · obtain rfl : k = z.secs.length := by omega
        have HR := Lib.hid (HRES.out _ _ _ _ _ _ _ _ _ HS.out (by simp) rfl rfl)
        have x0 := HS.out.row 0 _ rfl
        have x1 := HS.out.row 1 _ rfl
        have x2 := HS.out.row 2 _ rfl
        have x3 := HS.out.row 3 _ rfl
        have x4 := HS.out.row 4 _ rfl
        have x5 := HS.out.row 5 _ rfl
        have x6 := HS.out.row 6 _ rfl
        have r0 := HS.out.zr 0 _ rfl
        have r1 := HS.out.zr 1 _ rfl
        have r2 := HS.out.zr 2 _ rfl
        have r3 := HS.out.zr 3 _ rfl
        have r4 := HS.out.zr 4 _ rfl
        have r5 := HS.out.zr 5 _ rfl
        have r6 := HS.out.zr 6 _ rfl
        have HZ2 := Lib.hid (HS.out.zr.setL (mrL z (.slice A2 z.secs.length c2) (.slice Af nf cf) (.slice Ag ng cg)) (by simp [mzL]))
        have fz := HS.out.fz
        go_wp2
        clear x0 x1 x2 x3 x4 x5 x6 r0 r1 r2 r3 r4 r5 r6 fz HS
        show bodyPost _ _ _ _ _ (setL wr w.heap.size 0 (mrL z (.slice A2 z.secs.length c2) (.slice Af nf cf) (.slice Ag ng cg)))
        generalize (setL wr w.heap.size 0 (mrL z (.slice A2 z.secs.length c2) (.slice Af nf cf) (.slice Ag ng cg))) = W at *
        have s0 := HZ2.out 0 _ rfl
        have s1 := HZ2.out 1 _ rfl
        have s2 := HZ2.out 2 _ rfl
        have s3 := HZ2.out 3 _ rfl
        have s4 := HZ2.out 4 _ rfl
        have s5 := HZ2.out 5 _ rfl
        have s6 := HZ2.out 6 _ rfl
        exact bodyPost_ret (v := .tuple #[mrgV (mdM l z) (.slice A2 z.secs.length c2) (.slice Af nf cf) (.slice Ag ng cg), .int .i64 0]) (by simp [results, Try.results54, go_sem, s0, s1, s2, s3, s4, s5, s6, mdM]; try done) rfl HR.out
end Go.Proofs.Ytignjjkldmninaa
