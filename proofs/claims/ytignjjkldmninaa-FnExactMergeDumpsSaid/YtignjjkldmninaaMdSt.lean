/- The state in which dumps are merged: a boxed merge and its three lists. -/
import Derived.Test.YtignjjkldmninaaFillI
import Derived.Test.YtignjjkldmninaaHMerge
import Derived.Test.YtignjjkldmninaaMgI
/- Merged dumps: plain laws. -/
namespace Go.Proofs.Ytignjjkldmninaa
set_option linter.unusedVariables false
open Go.RowKit
/-- the merged sectors below k, where they come from and how many agree -/
def mdP (l : List Dsc) (k : Nat) : List (Sec × Int × Int) := (List.range k).map fun j => mgS (colF j l)
theorem mdP_len (l : List Dsc) (k : Nat) : (mdP l k).length = k := by simp [mdP]
theorem mdP_succ (l : List Dsc) (k : Nat) : mdP l (k + 1) = mdP l k ++ [mgS (colF k l)] := by simp [mdP, List.range_succ]
theorem mdP_get {l : List Dsc} {k n : Nat} (h : k < n) : (mdP l n)[k]? = some (mgS (colF k l)) := by simp [mdP, h]
def mdS (l : List Dsc) (k : Nat) : List Sec := (mdP l k).map (·.1)
def mdF (l : List Dsc) (k : Nat) : List Int := (mdP l k).map (·.2.1)
def mdA (l : List Dsc) (k : Nat) : List Int := (mdP l k).map (·.2.2)
theorem mdS_len (l : List Dsc) (k : Nat) : (mdS l k).length = k := by simp [mdS, mdP_len]
theorem mdF_len (l : List Dsc) (k : Nat) : (mdF l k).length = k := by simp [mdF, mdP_len]
theorem mdA_len (l : List Dsc) (k : Nat) : (mdA l k).length = k := by simp [mdA, mdP_len]
theorem mdS_succ (l : List Dsc) (k : Nat) : mdS l (k + 1) = mdS l k ++ [(mgS (colF k l)).1] := by simp [mdS, mdP_succ]
theorem mdF_succ (l : List Dsc) (k : Nat) : mdF l (k + 1) = mdF l k ++ [(mgS (colF k l)).2.1] := by simp [mdF, mdP_succ]
theorem mdA_succ (l : List Dsc) (k : Nat) : mdA l (k + 1) = mdA l k ++ [(mgS (colF k l)).2.2] := by simp [mdA, mdP_succ]
theorem mdS_get {l : List Dsc} {k n : Nat} (h : k < n) : (mdS l n)[k]? = some (mgS (colF k l)).1 := by simp [mdS, mdP_get h]
theorem mdF_get {l : List Dsc} {k n : Nat} (h : k < n) : (mdF l n)[k]? = some (mgS (colF k l)).2.1 := by simp [mdF, mdP_get h]
theorem mdA_get {l : List Dsc} {k n : Nat} (h : k < n) : (mdA l n)[k]? = some (mgS (colF k l)).2.2 := by simp [mdA, mdP_get h]
theorem stF_in {st : Int} {l : List Sec} {b : ByteArray} : b ∈ stF st l ↔ ∃ s ∈ l, s.state = st ∧ s.data = b := by
  induction l with
  | nil => simp [stF]
  | cons e r ih =>
    unfold stF
    by_cases h : (e.state == st) = true
    · rw [if_pos h, List.mem_cons, ih]
      have h' : e.state = st := by simpa using h
      constructor
      · rintro (rfl | ⟨s, hs, h1, h2⟩)
        · exact ⟨e, by simp, h', rfl⟩
        · exact ⟨s, by simp [hs], h1, h2⟩
      · rintro ⟨s, hs, h1, h2⟩
        rcases List.mem_cons.1 hs with rfl | hs
        · exact .inl h2.symm
        · exact .inr ⟨s, hs, h1, h2⟩
    · rw [if_neg h, ih]
      have h' : e.state ≠ st := by simpa using h
      constructor
      · rintro ⟨s, hs, h1, h2⟩; exact ⟨s, by simp [hs], h1, h2⟩
      · rintro ⟨s, hs, h1, h2⟩
        rcases List.mem_cons.1 hs with rfl | hs
        · exact absurd h1 h'
        · exact ⟨s, hs, h1, h2⟩
theorem mostS_in {l : List ByteArray} (h : l ≠ []) : mostS l ∈ l := mostK_in h _ (Nat.le_refl _)
theorem secOk_size {s : Sec} {n : Nat} (h : secOk s n = true) : s.data.size = n := by
  unfold secOk at h; simp only [Bool.and_eq_true, decide_eq_true_eq] at h; exact h.1.2
theorem mgS_ok {c : List Sec} {n : Nat} (hc : ∀ s ∈ c, secOk s n = true) (h0 : c ≠ []) : secOk (mgS c).1 n = true := by
  have hz : ∀ st, ∀ b ∈ stF st c, b.size = n := fun st b hb => by
    obtain ⟨s, hs, _, rfl⟩ := stF_in.1 hb; exact secOk_size (hc s hs)
  by_cases h1 : stF 1 c ≠ []
  · have := hz 1 _ (mostS_in h1)
    rw [mgS_g h1]; unfold mgG
    split <;> exact secOk_yes rfl this rfl
  · have h1 : stF 1 c = [] := by simpa using h1
    by_cases h2 : stF 4 c ≠ []
    · rw [mgS_w h1 h2]; exact secOk_yes rfl (hz 4 _ (mostS_in h2)) rfl
    · have h2 : stF 4 c = [] := by simpa using h2
      by_cases h3 : stF 2 c ≠ []
      · rw [mgS_b h1 h2 h3]
        refine secOk_yes rfl ?_ rfl
        show (strN (voteV (stF 2 c))).size = n
        rw [strN_size, voteV, List.length_map, List.length_range]
        cases hD : stF 2 c with
        | nil => exact absurd hD h3
        | cons a r => exact hz 2 a (by rw [hD]; simp)
      · have h3 : stF 2 c = [] := by simpa using h3
        rw [mgS_m h1 h2 h3]
        have e : (c.getD 0 ⟨.empty, 0⟩).data.size = n := by
          cases c with
          | nil => exact absurd rfl h0
          | cons a r => exact secOk_size (hc a (by simp))
        unfold mgM
        rw [e]
        exact (secOk_eq rfl (by rw [strN_size, List.length_replicate]) rfl).trans (by simp)
theorem stF_rep (st : Int) (s : Sec) (m : Nat) : stF st (List.replicate m s) = if s.state = st then List.replicate m s.data else [] := by
  induction m with
  | zero => simp [stF]
  | succ m ih =>
    rw [List.replicate_succ, stF, ih]
    by_cases h : s.state = st
    · simp [h, List.replicate_succ]
    · simp [h]
theorem cntF_rep (d : ByteArray) (m : Nat) : cntF d (List.replicate m d) = m := by
  unfold cntF; rw [List.filter_eq_self.2 (fun a ha => by obtain ⟨_, rfl⟩ := List.mem_replicate.1 ha; simp), List.length_replicate]
theorem voteK_one {c : Nat → Nat} {x m : Nat} (hm : 0 < m) (hx : x < 256) (hc : ∀ b, b < 256 → c b = if b = x then m else 0) : voteK c 256 = x := by
  have lo : ∀ b, b ≤ x → voteK c b = 0 := by
    intro b
    induction b with
    | zero => intro _; rfl
    | succ b ih =>
      intro hb
      rw [voteK, ih (by omega), if_neg]
      rw [hc b (by omega), if_neg (by omega)]; omega
  have at_ : voteK c (x + 1) = x := by
    rw [voteK, lo x (Nat.le_refl _)]
    by_cases h : x = 0
    · subst h; simp
    · rw [if_pos]
      rw [hc 0 (by omega), hc x hx, if_neg (by omega), if_pos rfl]; exact hm
  have hi : ∀ k, x + 1 + k ≤ 256 → voteK c (x + 1 + k) = x := by
    intro k
    induction k with
    | zero => intro _; exact at_
    | succ k ih =>
      intro hk
      rw [show x + 1 + (k + 1) = (x + 1 + k) + 1 by omega, voteK, ih (by omega), if_neg]
      rw [hc x hx, if_pos rfl, hc _ (by omega), if_neg (by omega)]; omega
  have := hi (255 - x) (by omega)
  rwa [show x + 1 + (255 - x) = 256 by omega] at this
theorem voteV_rep (d : ByteArray) {m : Nat} (hm : 0 < m) : voteV (List.replicate m d) = bts d := by
  have h0 : (List.replicate m d).getD 0 .empty = d := by
    cases m with
    | zero => omega
    | succ m => rfl
  unfold voteV
  rw [h0]
  apply List.ext_getElem
  · simp [bts_len]
  · intro i h1 h2
    have hi : i < d.size := by simpa using h1
    have e := bts_get hi
    rw [List.getElem?_eq_getElem h2] at e
    injection e with e
    rw [e]
    simp only [List.getElem_map, List.getElem_range]
    unfold byteV
    have hlt : d[i].toNat < 256 := d[i].toNat_lt
    have hg : d.data.toList.getD i 0 = d[i] := by
      rw [List.getD_eq_getElem?_getD, List.getElem?_eq_getElem (by simpa using hi)]
      simp; rfl
    refine voteK_one hm hlt (fun b hb => ?_)
    unfold cntB
    rw [List.countP_replicate, hg]
    congr 1
    rw [beq_iff_eq, eq_iff_iff]
    constructor
    · intro h; rw [h]; simp; omega
    · intro h; rw [h]; simp
theorem mgS_rep {s : Sec} {n m : Nat} (hs : secOk s n = true) (hm : 0 < m) : (mgS (List.replicate m s)).1 = s := by
  have hne : List.replicate m s.data ≠ [] := by simp; omega
  have hms : mostS (List.replicate m s.data) = s.data := (List.mem_replicate.1 (mostS_in hne)).2
  have hk := hs
  unfold secOk inB at hk
  simp only [Bool.and_eq_true, decide_eq_true_eq, Bool.or_eq_true, bne_iff_ne, ne_eq, beq_iff_eq] at hk
  obtain ⟨⟨⟨h1, h2⟩, h3⟩, h4⟩ := hk
  have hst : s.state = 1 ∨ s.state = 2 ∨ s.state = 3 ∨ s.state = 4 := by omega
  rcases hst with e | e | e | e
  · have x1 : stF 1 (List.replicate m s) = List.replicate m s.data := by rw [stF_rep, if_pos e]
    rw [mgS_g (by rw [x1]; exact hne)]
    unfold mgG; rw [x1, hms, cntF_rep, List.length_replicate, if_neg (Nat.lt_irrefl _), ← e]
  · have x1 : stF 1 (List.replicate m s) = [] := by rw [stF_rep, if_neg (by omega)]
    have x4 : stF 4 (List.replicate m s) = [] := by rw [stF_rep, if_neg (by omega)]
    have x2 : stF 2 (List.replicate m s) = List.replicate m s.data := by rw [stF_rep, if_pos e]
    rw [mgS_b x1 x4 (by rw [x2]; exact hne)]
    unfold mgB; rw [x2, voteV_rep _ hm, strN_bts, ← e]
  · have x1 : stF 1 (List.replicate m s) = [] := by rw [stF_rep, if_neg (by omega)]
    have x4 : stF 4 (List.replicate m s) = [] := by rw [stF_rep, if_neg (by omega)]
    have x2 : stF 2 (List.replicate m s) = [] := by rw [stF_rep, if_neg (by omega)]
    rw [mgS_m x1 x4 x2]
    have h0 : (List.replicate m s).getD 0 ⟨.empty, 0⟩ = s := by
      cases m with
      | zero => omega
      | succ m => rfl
    have h5 := h4.resolve_left (by simp [e])
    unfold mgM
    have h6 : s.data = strN (List.replicate n 0) := (toL_eq _ _).1 (by simpa using h5)
    rw [h0, h3, ← h6, ← e]
  · have x1 : stF 1 (List.replicate m s) = [] := by rw [stF_rep, if_neg (by omega)]
    have x4 : stF 4 (List.replicate m s) = List.replicate m s.data := by rw [stF_rep, if_pos e]
    rw [mgS_w x1 (by rw [x4]; exact hne)]
    unfold mgW; rw [x4, hms, ← e]
/-- a column whose good sectors are all the right one -/
theorem mgS_zero {c : List Sec} (h : stF 1 c = []) : (mgS c).1.state ≠ 1 := by
  by_cases h2 : stF 4 c ≠ []
  · rw [mgS_w h h2]; show (4 : Int) ≠ 1; decide
  · have h2 : stF 4 c = [] := by simpa using h2
    by_cases h3 : stF 2 c ≠ []
    · rw [mgS_b h h2 h3]; show (2 : Int) ≠ 1; decide
    · rw [mgS_m h h2 (by simpa using h3)]; show (3 : Int) ≠ 1; decide
theorem firF_ge (st : Int) (d : ByteArray) (k : Nat) (l : List Sec) (h : ∃ s ∈ l, s.state = st ∧ s.data = d) : ∃ j : Nat, firF st d k l = ((k + j : Nat) : Int) ∧ ∃ s, l[j]? = some s ∧ s.state = st ∧ s.data = d := by
  induction l generalizing k with
  | nil => obtain ⟨s, hs, _⟩ := h; cases hs
  | cons e r ih =>
    unfold firF
    by_cases hc : (e.state == st && e.data.toList == d.toList) = true
    · rw [if_pos hc]
      rw [Bool.and_eq_true] at hc
      exact ⟨0, rfl, e, rfl, by simpa using hc.1, (toL_eq _ _).1 hc.2⟩
    · rw [if_neg hc]
      obtain ⟨s, hs, h1, h2⟩ := h
      have : ∃ s ∈ r, s.state = st ∧ s.data = d := by
        rcases List.mem_cons.1 hs with rfl | hs
        · exact absurd (by rw [Bool.and_eq_true]; exact ⟨by simpa using h1, (toL_eq _ _).2 h2⟩) hc
        · exact ⟨s, hs, h1, h2⟩
      obtain ⟨j, e1, s', h3, h4⟩ := ih (k + 1) this
      exact ⟨j + 1, by rw [e1]; congr 1; omega, s', h3, h4⟩
theorem mgS_right {c : List Sec} {t : Sec} (ht : t.state = 1) (hc : ∀ s ∈ c, s.state = 1 → s = t) (h : stF 1 c ≠ []) :
    (mgS c).1 = t ∧ (mgS c).2.2 = ((stF 1 c).length : Nat) ∧ ∃ j : Nat, (mgS c).2.1 = (j : Int) ∧ c[j]? = some t := by
  have hall : ∀ b ∈ stF 1 c, b = t.data := fun b hb => by
    obtain ⟨s, hs, h1, rfl⟩ := stF_in.1 hb; rw [hc s hs h1]
  have hrep : stF 1 c = List.replicate (stF 1 c).length t.data := List.eq_replicate_iff.2 ⟨rfl, hall⟩
  have hms : mostS (stF 1 c) = t.data := hall _ (mostS_in h)
  have hcnt : cntF t.data (stF 1 c) = (stF 1 c).length := by
    rw [hrep, cntF_rep, List.length_replicate]
  rw [mgS_g h]
  unfold mgG
  rw [hms, hcnt, if_neg (Nat.lt_irrefl _)]
  refine ⟨by rw [← ht], rfl, ?_⟩
  obtain ⟨b, hb⟩ := List.exists_mem_of_ne_nil _ h
  obtain ⟨s, hs, h1, h2⟩ := stF_in.1 hb
  obtain ⟨j, e, s', h3, h4, h5⟩ := firF_ge 1 t.data 0 c ⟨s, hs, h1, by rw [hc s hs h1]⟩
  refine ⟨j, by rw [e, Nat.zero_add], ?_⟩
  rw [h3, hc s' (List.mem_of_getElem? h3) h4]
/-- the merged dumps -/
def mdD (l : List Dsc) : Dsc := match l with
  | [] => ⟨0, 0, 0, 0, []⟩
  | z :: _ => ⟨z.cyl, z.heads, z.per, z.size, mdS l z.secs.length⟩
def mdN (l : List Dsc) : Nat := (l.headD default).secs.length
end Go.Proofs.Ytignjjkldmninaa
namespace Go.Proofs.Ytignjjkldmninaa
open Go.RowKit
/-- two values lie in different blocks -/
def Dj (u v : Value) : Prop := ∀ b, u.ownBlock = some b → v.ownBlock ≠ some b
theorem Dj.symm {u v : Value} (h : Dj u v) : Dj v u := fun b h1 h2 => h b h2 h1
theorem Dj.new {u u' v : Value} {N : Nat} (h : Dj u v) (hb : u'.ownBlock = u.ownBlock ∨ u'.ownBlock = some N) (hv : ∀ b, v.ownBlock = some b → b < N) : Dj u' v := fun b h1 h2 => by
  rcases hb with hb | hb
  · exact h b (hb ▸ h1) h2
  · rw [h1] at hb; injection hb with hb; have := hv b h2; omega
theorem Dj.nil {v : Value} : Dj (.slice none 0 0) v := fun b h => by cases h
abbrev mrL (z : Dsc) (x y v : Value) : List Value := [.int .i64 z.cyl, .int .i64 z.heads, .int .i64 z.per, .int .i64 z.size, x, y, v]
def mzL : List Value := mrL ⟨0, 0, 0, 0, []⟩ (.slice none 0 0) (.slice none 0 0) (.slice none 0 0)
theorem OwnL.notIn {α : Type} {f : α → List Value} {z : Nat} {e : TypeId} {B g o : Nat} {w : World} {v u : Value} {l : List α} (h : OwnL f z e B w v l) (hg : v.ownBlock ≠ some g) : OwnL f z e B (w.setCell ⟨g, o, none⟩ u) v l := by
  refine ⟨h.1, ?_⟩
  rcases h.2 with hn | ⟨b, cap, cur, rfl, hbg, hh, rest⟩
  · exact .inl hn
  · exact .inr ⟨b, cap, cur, rfl, hbg, (Below.heap_setCell w ⟨g, o, none⟩ u b (by intro e; have e' : b = g := e; subst e'; exact hg rfl)).trans hh, rest⟩
structure MdSt (z : Dsc) (w : World) (gm gz : Nat) (P : List Sec) (F G : List Int) (vs vf va : Value) (W : World) : Prop where
  bel : Below w.heap.size w W
  row : Row W gm (mrL z vs vf va)
  fr : ∀ o, W.frozen? ⟨gm, o, none⟩ = false
  zr : Row W gz mzL
  fz : ∀ o, W.frozen? ⟨gz, o, none⟩ = false
  s : SecOwn w.heap.size W vs P
  f : Int64L w.heap.size W vf F
  g : Int64L w.heap.size W va G
  sf : Dj vs vf
  sg : Dj vs va
  fg : Dj vf va
  gm1 : w.heap.size ≤ gm ∧ gm < W.heap.size ∧ gm ≠ gz
  gz1 : w.heap.size ≤ gz ∧ gz < W.heap.size
  ns : vs.ownBlock ≠ some gm ∧ vs.ownBlock ≠ some gz
  nf : vf.ownBlock ≠ some gm ∧ vf.ownBlock ≠ some gz
  ng : va.ownBlock ≠ some gm ∧ va.ownBlock ≠ some gz
section
variable {z : Dsc} {w : World} {gm gz : Nat} {P : List Sec} {F G : List Int} {vs vf va : Value} {W W' : World}
theorem MdSt.below (h : MdSt z w gm gz P F G vs vf va W) (hb : Below W.heap.size W W') : MdSt z w gm gz P F G vs vf va W' :=
  ⟨h.bel.trans (hb.mono h.bel.size), h.row.below hb h.gm1.2.1, frozen_below h.fr hb h.gm1.2.1, h.zr.below hb h.gz1.2, frozen_below h.fz hb h.gz1.2, OwnL.below h.s hb, OwnL.below h.f hb, OwnL.below h.g hb, h.sf, h.sg, h.fg, ⟨h.gm1.1, Nat.lt_of_lt_of_le h.gm1.2.1 hb.size, h.gm1.2.2⟩, ⟨h.gz1.1, Nat.lt_of_lt_of_le h.gz1.2 hb.size⟩, h.ns, h.nf, h.ng⟩
theorem MdSt.alloc (h : MdSt z w gm gz P F G vs vf va W) (o : Obj) : MdSt z w gm gz P F G vs vf va (W.alloc o) := h.below (Below.alloc (Below.refl _ _) (Nat.le_refl _) o)
theorem Row.grown {w w' : World} {b : Nat} {us : List Value} {row : Option Nat} (h : Row w b us) (hg : w.grownBy w' row) (hl : b < w.heap.size) (hr : row ≠ some b) : Row w' b us := fun j u hu => (World.cell?_of_block (a := ⟨b, j, none⟩) (hg.block b hl (fun e => hr e.symm))).trans (h j u hu)
theorem frozen_grown {w w' : World} {b : Nat} {v : Bool} {row : Option Nat} (h : ∀ o, w.frozen? ⟨b, o, none⟩ = v) (hg : w.grownBy w' row) (hl : b < w.heap.size) (hr : row ≠ some b) : ∀ o, w'.frozen? ⟨b, o, none⟩ = v := fun o => (World.frozen?_of_block (a := ⟨b, o, none⟩) (hg.block b hl (fun e => hr e.symm))).trans (h o)
theorem dj_kept {u v : Value} (h : Dj u v) : u.ownBlock = none ∨ u.ownBlock ≠ v.ownBlock := by
  cases e : u.ownBlock with
  | none => exact .inl rfl
  | some b => exact .inr fun h' => h b e h'.symm
theorem lt_of_own {α : Type} {f : α → List Value} {z : Nat} {e : TypeId} {B : Nat} {w : World} {v : Value} {l : List α} (h : OwnL f z e B w v l) : ∀ b, v.ownBlock = some b → B ≤ b ∧ b < w.heap.size := fun b hb => World.ownsRow.lt h b hb
theorem new_ne {u u' : Value} {N b : Nat} (h : u.ownBlock ≠ some b) (hb : u'.ownBlock = u.ownBlock ∨ u'.ownBlock = some N) (hN : b < N) : u'.ownBlock ≠ some b := by
  rcases hb with hb | hb
  · rw [hb]; exact h
  · rw [hb]; intro e; injection e with e; omega
/-- the second list grew, and its place in the box was stored -/
theorem MdSt.appF {vf' : Value} {F' : List Int} (h : MdSt z w gm gz P F G vs vf va W) (ho : Int64L w.heap.size W' vf' F') (hg : W.grownBy W' vf.ownBlock) (hb : vf'.ownBlock = vf.ownBlock ∨ vf'.ownBlock = some W.heap.size) :
    MdSt z w gm gz P F' G vs vf' va (W'.setCell ⟨gm, 5, none⟩ vf') := by
  have hl1 := lt_of_own h.s
  have hl3 := lt_of_own h.g
  have n1 := new_ne h.nf.1 hb h.gm1.2.1
  have n2 := new_ne h.nf.2 hb h.gz1.2
  have hz := hg.size
  refine ⟨Below.setCell (own_grown_below h.f h.bel hg (Nat.le_refl _) h.bel.size) h.gm1.1 _, (h.row.grown hg h.gm1.2.1 h.nf.1).set (o := 5) vf' (by simp), fun o => (setCell_frozen _ _ _ _).trans (frozen_grown h.fr hg h.gm1.2.1 h.nf.1 o), (h.zr.grown hg h.gz1.2 h.nf.2).set_other _ (fun e => h.gm1.2.2 e.symm), fun o => (setCell_frozen _ _ _ _).trans (frozen_grown h.fz hg h.gz1.2 h.nf.2 o), OwnL.notIn (OwnL.kept h.s hg (dj_kept h.sf)) h.ns.1, OwnL.notIn ho n1, OwnL.notIn (OwnL.kept h.g hg (dj_kept h.fg.symm)) h.ng.1, (h.sf.symm.new hb (fun b e => (hl1 b e).2)).symm, h.sg, h.fg.new hb (fun b e => (hl3 b e).2), ⟨h.gm1.1, by simp; have := h.gm1.2.1; omega, h.gm1.2.2⟩, ⟨h.gz1.1, by simp; have := h.gz1.2; omega⟩, h.ns, ⟨n1, n2⟩, h.ng⟩
/-- the third list grew -/
theorem MdSt.appG {va' : Value} {G' : List Int} (h : MdSt z w gm gz P F G vs vf va W) (ho : Int64L w.heap.size W' va' G') (hg : W.grownBy W' va.ownBlock) (hb : va'.ownBlock = va.ownBlock ∨ va'.ownBlock = some W.heap.size) :
    MdSt z w gm gz P F G' vs vf va' (W'.setCell ⟨gm, 6, none⟩ va') := by
  have hl1 := lt_of_own h.s
  have hl2 := lt_of_own h.f
  have n1 := new_ne h.ng.1 hb h.gm1.2.1
  have n2 := new_ne h.ng.2 hb h.gz1.2
  have hz := hg.size
  refine ⟨Below.setCell (own_grown_below h.g h.bel hg (Nat.le_refl _) h.bel.size) h.gm1.1 _, (h.row.grown hg h.gm1.2.1 h.ng.1).set (o := 6) va' (by simp), fun o => (setCell_frozen _ _ _ _).trans (frozen_grown h.fr hg h.gm1.2.1 h.ng.1 o), (h.zr.grown hg h.gz1.2 h.ng.2).set_other _ (fun e => h.gm1.2.2 e.symm), fun o => (setCell_frozen _ _ _ _).trans (frozen_grown h.fz hg h.gz1.2 h.ng.2 o), OwnL.notIn (OwnL.kept h.s hg (dj_kept h.sg)) h.ns.1, OwnL.notIn (OwnL.kept h.f hg (dj_kept h.fg)) h.nf.1, OwnL.notIn ho n1, h.sf, (h.sg.symm.new hb (fun b e => (hl1 b e).2)).symm, (h.fg.symm.new hb (fun b e => (hl2 b e).2)).symm, ⟨h.gm1.1, by simp; have := h.gm1.2.1; omega, h.gm1.2.2⟩, ⟨h.gz1.1, by simp; have := h.gz1.2; omega⟩, h.ns, h.nf, ⟨n1, n2⟩⟩
/-- the first list grew -/
theorem MdSt.appS {vs' : Value} {P' : List Sec} (h : MdSt z w gm gz P F G vs vf va W) (ho : SecOwn w.heap.size W' vs' P') (hg : W.grownBy W' vs.ownBlock) (hb : vs'.ownBlock = vs.ownBlock ∨ vs'.ownBlock = some W.heap.size) :
    MdSt z w gm gz P' F G vs' vf va (W'.setCell ⟨gm, 4, none⟩ vs') := by
  have hl2 := lt_of_own h.f
  have hl3 := lt_of_own h.g
  have n1 := new_ne h.ns.1 hb h.gm1.2.1
  have n2 := new_ne h.ns.2 hb h.gz1.2
  have hz := hg.size
  refine ⟨Below.setCell (own_grown_below h.s h.bel hg (Nat.le_refl _) h.bel.size) h.gm1.1 _, (h.row.grown hg h.gm1.2.1 h.ns.1).set (o := 4) vs' (by simp), fun o => (setCell_frozen _ _ _ _).trans (frozen_grown h.fr hg h.gm1.2.1 h.ns.1 o), (h.zr.grown hg h.gz1.2 h.ns.2).set_other _ (fun e => h.gm1.2.2 e.symm), fun o => (setCell_frozen _ _ _ _).trans (frozen_grown h.fz hg h.gz1.2 h.ns.2 o), OwnL.notIn ho n1, OwnL.notIn (OwnL.kept h.f hg (dj_kept h.sf.symm)) h.nf.1, OwnL.notIn (OwnL.kept h.g hg (dj_kept h.sg.symm)) h.ng.1, h.sf.new hb (fun b e => (hl2 b e).2), h.sg.new hb (fun b e => (hl3 b e).2), h.fg, ⟨h.gm1.1, by simp; have := h.gm1.2.1; omega, h.gm1.2.2⟩, ⟨h.gz1.1, by simp; have := h.gz1.2; omega⟩, ⟨n1, n2⟩, h.nf, h.ng⟩
/-- a sector was stored in the first list -/
theorem MdSt.setS {gs n c k : Nat} {x y : Sec} (h : MdSt z w gm gz P F G (.slice (some ⟨gs, 0, none⟩) n c) vf va W) (hk : P[k]? = some y) :
    MdSt z w gm gz (P.set k x) F G (.slice (some ⟨gs, 0, none⟩) n c) vf va ((W.setCell ⟨gs, k * 2, none⟩ (.string x.data)).setCell ⟨gs, k * 2 + 1, none⟩ (.int .i64 x.state)) := by
  have hgs := (lt_of_own h.s gs rfl)
  have ne1 : gm ≠ gs := fun e => h.ns.1 (by rw [e]; rfl)
  have ne2 : gz ≠ gs := fun e => h.ns.2 (by rw [e]; rfl)
  have s1 := OwnL.set1 (j := 0) (a' := ⟨x.data, y.state⟩) (u := .string x.data) Sec.len h.s hk (by omega) rfl
  have hk2 : (P.set k ⟨x.data, y.state⟩)[k]? = some ⟨x.data, y.state⟩ := by rw [List.getElem?_set, if_pos rfl, if_pos (List.getElem?_eq_some_iff.1 hk).1]
  have s2 := OwnL.set1 (j := 1) (a' := x) (u := .int .i64 x.state) Sec.len s1 hk2 (by omega) rfl
  rw [List.set_set, Nat.add_zero] at s2
  have nf : vf.ownBlock ≠ some gs := h.sf gs rfl
  have ng : va.ownBlock ≠ some gs := h.sg gs rfl
  exact ⟨Below.setCell (Below.setCell h.bel hgs.1 _) hgs.1 _, (h.row.set_other _ ne1).set_other _ ne1, fun o => (setCell_frozen _ _ _ _).trans ((setCell_frozen _ _ _ _).trans (h.fr o)), (h.zr.set_other _ ne2).set_other _ ne2, fun o => (setCell_frozen _ _ _ _).trans ((setCell_frozen _ _ _ _).trans (h.fz o)), s2, OwnL.notIn (OwnL.notIn h.f nf) nf, OwnL.notIn (OwnL.notIn h.g ng) ng, h.sf, h.sg, h.fg, ⟨h.gm1.1, by simp; exact h.gm1.2.1, h.gm1.2.2⟩, ⟨h.gz1.1, by simp; exact h.gz1.2⟩, h.ns, h.nf, h.ng⟩
end
theorem own_slice {α : Type} {f : α → List Value} {z : Nat} {e : TypeId} {B : Nat} {w : World} {v : Value} {l : List α} (h : OwnL f z e B w v l) : ∃ A n c, v = .slice A n c := by
  obtain ⟨A, c, h1, _⟩ := OwnL.shape h
  exact ⟨_, _, _, h1⟩
/-- what merging returns -/
def MdR (w : World) (r : Mrg × Int) (e : Ending) (w' : World) : Prop := ∃ A c A1 c1 A2 c2, e = .returned (.tuple #[mrgV r.1 (.slice A r.1.d.secs.length c) (.slice A1 r.1.fr.length c1) (.slice A2 r.1.ag.length c2), .int .i64 r.2]) ∧ MrgOwn w.heap.size w' r.1 (.slice A r.1.d.secs.length c) (.slice A1 r.1.fr.length c1) (.slice A2 r.1.ag.length c2) ∧ (Dj (.slice A r.1.d.secs.length c) (.slice A1 r.1.fr.length c1) ∧ Dj (.slice A r.1.d.secs.length c) (.slice A2 r.1.ag.length c2) ∧ Dj (.slice A1 r.1.fr.length c1) (.slice A2 r.1.ag.length c2)) ∧ Below w.heap.size w w'
def mdM (l : List Dsc) (z : Dsc) : Mrg := ⟨⟨z.cyl, z.heads, z.per, z.size, mdS l z.secs.length⟩, mdF l z.secs.length, mdA l z.secs.length⟩
def mrgZ0 : Mrg := ⟨⟨0, 0, 0, 0, []⟩, [], []⟩
def mdE (l : List Dsc) : Mrg × Int := if dumpsOk l = true then (mdM l (l.headD default), 0) else (mrgZ0, 1)
theorem mdE_no {l : List Dsc} (h : dumpsOk l = false) : mdE l = (mrgZ0, 1) := by unfold mdE; rw [h]; rfl
theorem mdE_yes {l : List Dsc} {z : Dsc} (h : dumpsOk l = true) (hz : l[0]? = some z) : mdE l = (mdM l z, 0) := by
  unfold mdE; rw [if_pos h]
  cases l with
  | nil => cases hz
  | cons a r => simp at hz; subst hz; rfl
end Go.Proofs.Ytignjjkldmninaa
