/- What the check of a source computes: the plain law. What a valid question of a certificate holds: the plain law. -/
import Derived.Test.YtfcdienphillnaaGreatCk07
import Derived.Test.YtfcdienphillnaaGreatCk10
import Derived.Test.YtfcdienphillnaaGreatCk11
import Derived.Test.YtfcdienphillnaaGreatCk24
import Derived.Test.YtfcdienphillnaaGreatCk29
namespace Go.Proofs.YtfcdienphillnaaGreat
set_option linter.unusedVariables false
set_option linter.unusedSimpArgs false
open Go.RowKit
/-- bytes fit a sector's check value -/
def fitB (cr : List Int) (k : Nat) (s : ByteArray) : Bool := cr.getD k 0 == -1 || (crcB s : Int) == cr.getD k 0
/-- the readings of a sector -/
def rdL : List Sec → List ByteArray
  | [] => []
  | s :: r => if s.state == 3 then rdL r else s.data :: rdL r
def rdF (k : Nat) (ds : List Dsc) : List ByteArray := rdL (ds.map fun d => d.secs.getD k ⟨.empty, 0⟩)
theorem rdL_len (l : List Sec) : (rdL l).length ≤ l.length := by
  induction l with
  | nil => exact Nat.le_refl _
  | cons a r ih =>
    unfold rdL
    split
    · exact Nat.le_trans ih (Nat.le_succ _)
    · simpa using ih
theorem rdF_len (k : Nat) (ds : List Dsc) : (rdF k ds).length ≤ ds.length := by
  have := rdL_len (ds.map fun d => d.secs.getD k ⟨.empty, 0⟩)
  unfold rdF; simpa using this
/-- the places at which readings differ -/
def diB (D : List ByteArray) (i : Nat) : Bool := D.any fun s => s.data.toList.getD i 0 != (D.getD 0 .empty).data.toList.getD i 0
def difF (D : List ByteArray) : List Int := ((List.range (voteN D)).filter (diB D)).map fun i : Nat => (i : Int)
/-- the bytes that a check value yields -/
def slvE (e : Evd) (k : Nat) : ByteArray × Bool :=
  if e.cr.getD k 0 < 0 ∨ rdF k e.ds = [] then (.empty, false)
  else ((sbE ((rdF k e.ds).getD 0 .empty) (difF (rdF k e.ds)) (e.cr.getD k 0)).1, (sbE ((rdF k e.ds).getD 0 .empty) (difF (rdF k e.ds)) (e.cr.getD k 0)).2 == 0)
/-- the sectors of a track that no source or parity has -/
def losB (l : List Src) (o : Nat) (j : Nat) : Bool := kinN ((o + j : Nat) : Int) l == 4 || kinN ((o + j : Nat) : Int) l == 0
def losF (l : List Src) (o per : Nat) : List Int := ((List.range per).filter (losB l o)).map fun i : Nat => (i : Int)
def blkF (d : Dsc) (o per : Nat) : List ByteArray := ((d.secs.drop o).take per).map Sec.data
/-- the sectors of a track with parity as their source come from it -/
def parC (e : Evd) (d : Dsc) (l : List Src) (t : Nat) : Bool :=
  (r2E (blkF d (t * d.per.toNat) d.per.toNat) (losF l (t * d.per.toNat) d.per.toNat) (e.p.getD t .empty) (e.q.getD t .empty)).2 == 0 &&
  (List.range d.per.toNat).all fun j => !(kinN ((t * d.per.toNat + j : Nat) : Int) l == 4) ||
    ((r2E (blkF d (t * d.per.toNat) d.per.toNat) (losF l (t * d.per.toNat) d.per.toNat) (e.p.getD t .empty) (e.q.getD t .empty)).1.getD j .empty).toList == ((blkF d (t * d.per.toNat) d.per.toNat).getD j .empty).toList
/-- the data of a sector come from their source -/
def srcC (e : Evd) (d : Dsc) (l : List Src) (s : Src) : Bool :=
  match d.secs[s.sector.toNat]? with
  | none => false
  | some x => x.state == 1 && (fitB e.cr s.sector.toNat x.data &&
      (if s.kind = 1 then (match e.ds[s.dump.toNat]? with
          | none => false
          | some y => (match y.secs[s.sector.toNat]? with
            | none => false
            | some z => z.data.toList == x.data.toList && z.state == 1))
        else if s.kind = 2 then (voteE (rdF s.sector.toNat e.ds)).2 && (voteE (rdF s.sector.toNat e.ds)).1.toList == x.data.toList
        else if s.kind = 3 then (slvE e s.sector.toNat).2 && (slvE e s.sector.toNat).1.toList == x.data.toList
        else parC e d l (s.sector.toNat / d.per.toNat)))
def askB (e : Evd) (d : Dsc) (l : List Src) : Bool := evOk e && (discOk d && (certOk l && sameG d (e.ds.headD default)))
def chkS (e : Evd) (d : Dsc) (l : List Src) (k : Int) : Bool := askB e d l && (inB k 0 ((l.length : Int) - 1) && (match l[k.toNat]? with
  | none => false
  | some s => srcC e d l s))
theorem stopQ {p : Prop} (h : True → p) : p := h trivial
theorem cell_alloc2 (w : World) (o : Obj) (u : Value) (t : TypeId) : ((w.alloc o).alloc (.cells #[u] t)).cell? ⟨w.heap.size + 1, 0, none⟩ = some u := by
  have h : (w.alloc o).heap.size = w.heap.size + 1 := by simp
  have := World.cell?_alloc_new (w.alloc o) #[u] t 0
  rw [h] at this
  exact this
theorem cell_alloc3 (w : World) (o o' : Obj) (u : Value) (t : TypeId) : (((w.alloc o).alloc o').alloc (.cells #[u] t)).cell? ⟨w.heap.size + 1 + 1, 0, none⟩ = some u := by
  have h : ((w.alloc o).alloc o').heap.size = w.heap.size + 1 + 1 := by simp
  have := World.cell?_alloc_new ((w.alloc o).alloc o') #[u] t 0
  rw [h] at this
  exact this
theorem below_drewNQ {B : Nat} {a w : World} (h : Below B a w) (n : Nat) : Below B a (w.drewN n) := h.trans ⟨rfl, rfl, rfl, Nat.le_refl _, fun _ _ => rfl⟩
theorem cell_allocD (w : World) (n : Nat) (u : Value) (t : TypeId) : ((w.drewN n).alloc (.cells #[u] t)).cell? ⟨w.heap.size, 0, none⟩ = some u := World.cell?_alloc_new (w.drewN n) #[u] t 0
/-! filters over a range -/
def fltN (P : Nat → Bool) (n : Nat) : List Int := ((List.range n).filter P).map fun i : Nat => (i : Int)
theorem flt_zero (P : Nat → Bool) : fltN P 0 = [] := rfl
theorem flt_yes {P : Nat → Bool} {n : Nat} {acc : List Int} (H : Hid (acc = fltN P n)) (h : P n = true) : Hid (acc ++ [(n : Int)] = fltN P (n + 1)) :=
  Lib.hid (by rw [H.out]; unfold fltN; rw [List.range_succ, List.filter_append, List.filter_cons_of_pos h, List.map_append]; rfl)
theorem flt_no {P : Nat → Bool} {n : Nat} {acc : List Int} (H : Hid (acc = fltN P n)) (h : P n = false) : Hid (acc = fltN P (n + 1)) :=
  Lib.hid (by rw [H.out]; unfold fltN; rw [List.range_succ, List.filter_append, List.filter_cons_of_neg (by rw [h]; decide), List.filter_nil, List.append_nil])
theorem flt_len (P : Nat → Bool) (n : Nat) : (fltN P n).length ≤ n := by
  unfold fltN; rw [List.length_map]; exact Nat.le_trans (List.length_filter_le _ _) (by simp)
theorem flt_mem {P : Nat → Bool} {n : Nat} {x : Int} (h : x ∈ fltN P n) : ∃ k : Nat, x = k ∧ k < n ∧ P k = true := by
  unfold fltN at h
  obtain ⟨k, hk, rfl⟩ := List.mem_map.1 h
  have := List.mem_filter.1 hk
  exact ⟨k, rfl, List.mem_range.1 this.1, this.2⟩
theorem flt_has {P : Nat → Bool} {n k : Nat} (hk : k < n) (h : P k = true) : (k : Int) ∈ fltN P n := by
  unfold fltN
  exact List.mem_map.2 ⟨k, List.mem_filter.2 ⟨List.mem_range.2 hk, h⟩, rfl⟩
theorem dif_flt (D : List ByteArray) : difF D = fltN (diB D) (voteN D) := rfl
theorem los_flt (l : List Src) (o per : Nat) : losF l o per = fltN (losB l o) per := rfl
theorem byte_at {s : ByteArray} {i : Nat} (hi : i < s.size) : s.data.toList.getD i 0 = s[i] := by
  rw [List.getD_eq_getElem?_getD, List.getElem?_eq_getElem (by simpa using hi)]; rfl
theorem di_yes {D : List ByteArray} {s0 s : ByteArray} {k i : Nat} (h0 : D[0]? = some s0) (hs : D[k]? = some s) (hi0 : i < s0.size) (hi : i < s.size) (h : ((s[i].toNat : Int) != (s0[i].toNat : Int)) = true) : diB D i = true := by
  unfold diB
  refine List.any_eq_true.2 ⟨s, List.mem_of_getElem? hs, ?_⟩
  rw [show D.getD 0 .empty = s0 by rw [List.getD_eq_getElem?_getD, h0]; rfl, byte_at hi, byte_at hi0]
  rw [bne_iff_ne] at h ⊢
  intro e; rw [e] at h; exact h rfl
theorem di_no {D : List ByteArray} {s0 : ByteArray} {i : Nat} (h0 : D[0]? = some s0) (hi0 : i < s0.size) (h : ∀ (k : Nat) (s : ByteArray), D[k]? = some s → ∃ hi : i < s.size, ((s[i].toNat : Int) != (s0[i].toNat : Int)) = false) : diB D i = false := by
  unfold diB
  rw [← Bool.not_eq_true, List.any_eq_true]
  rintro ⟨s, hs, hb⟩
  obtain ⟨k, hk⟩ := List.getElem?_of_mem hs
  obtain ⟨hi, e⟩ := h k s hk
  rw [show D.getD 0 .empty = s0 by rw [List.getD_eq_getElem?_getD, h0]; rfl, byte_at hi, byte_at hi0] at hb
  rw [bne_iff_ne] at hb
  rw [bne_eq_false_iff_eq] at e
  exact hb (UInt8.toNat_inj.1 (by omega))
/-- the readings have one size -/
theorem rd_size {n : Nat} {k : Nat} {ds : List Dsc} (h : ∀ d ∈ ds, ∀ s ∈ d.secs, s.data.size = n) (hk : ∀ d ∈ ds, k < d.secs.length) : ∀ s ∈ rdF k ds, s.size = n := by
  have hl : ∀ l : List Sec, (∀ s ∈ l, s.data.size = n) → ∀ s ∈ rdL l, s.size = n := by
    intro l
    induction l with
    | nil => intro _ s hs; cases hs
    | cons a r ih =>
      intro h s hs
      unfold rdL at hs
      split at hs
      · exact ih (fun s h' => h s (List.mem_cons_of_mem _ h')) s hs
      · rcases List.mem_cons.1 hs with rfl | hs
        · exact h a List.mem_cons_self
        · exact ih (fun s h' => h s (List.mem_cons_of_mem _ h')) s hs
  refine hl _ fun s hs => ?_
  obtain ⟨d, hd, rfl⟩ := List.mem_map.1 hs
  have := hk d hd
  rw [List.getD_eq_getElem?_getD, List.getElem?_eq_getElem this]
  exact h d hd _ (List.getElem_mem _)
theorem slv_no {e : Evd} {k : Nat} (h : e.cr.getD k 0 < 0 ∨ rdF k e.ds = []) : slvE e k = (.empty, false) := by unfold slvE; rw [if_pos h]
theorem slv_yes {e : Evd} {k : Nat} {c : Int} {s0 : ByteArray} (hc : e.cr[k]? = some c) (h0 : (rdF k e.ds)[0]? = some s0) (h : ¬ c < 0) : slvE e k = ((sbE s0 (fltN (diB (rdF k e.ds)) s0.size) c).1, (sbE s0 (fltN (diB (rdF k e.ds)) s0.size) c).2 == 0) := by
  unfold slvE
  rw [show e.cr.getD k 0 = c by rw [List.getD_eq_getElem?_getD, hc]; rfl, if_neg (by rintro (h' | h'); exact h h'; rw [h'] at h0; cases h0), dif_flt, show voteN (rdF k e.ds) = s0.size by unfold voteN; rw [List.getD_eq_getElem?_getD, h0]; rfl, show (rdF k e.ds).getD 0 .empty = s0 by rw [List.getD_eq_getElem?_getD, h0]; rfl]
/-- the kind of a source of a certificate is that of its sector -/
theorem kin_of {l : List Src} (h : certOk l = true) {i : Nat} {s : Src} (hs : l[i]? = some s) : kinN s.sector l = s.kind := by
  have hf : ∀ (last : Int) (r : List Src), certFrom last r = true → ∀ (i : Nat) (s : Src), r[i]? = some s → last < s.sector ∧ kinN s.sector r = s.kind := by
    intro last r
    induction r generalizing last with
    | nil => intro _ i s hs; cases hs
    | cons a r ih =>
      intro h i s hs
      rw [certFrom, Bool.and_eq_true] at h
      have h1 := srcOk_iff.1 h.1
      cases i with
      | zero =>
        obtain rfl : a = s := by simpa using hs
        exact ⟨by omega, by unfold kinN; rw [if_pos (by simp)]⟩
      | succ i =>
        obtain ⟨g1, g2⟩ := ih _ h.2 i s (by simpa using hs)
        refine ⟨by omega, ?_⟩
        unfold kinN
        rw [if_neg (by intro e; have e2 : a.sector = s.sector := by simpa using e
                       omega)]
        exact g2
  exact (hf _ _ h i s hs).2
theorem src_bd {l : List Src} (h : certOk l = true) {i : Nat} {s : Src} (hs : l[i]? = some s) : 1 ≤ s.kind ∧ s.kind ≤ 4 ∧ 0 ≤ s.sector ∧ s.sector ≤ 1048576 ∧ 0 ≤ s.dump ∧ s.dump ≤ 4 := by
  have hf : ∀ (last : Int) (r : List Src), -1 ≤ last → certFrom last r = true → ∀ (i : Nat) (s : Src), r[i]? = some s → 1 ≤ s.kind ∧ s.kind ≤ 4 ∧ 0 ≤ s.sector ∧ s.sector ≤ 1048576 ∧ 0 ≤ s.dump ∧ s.dump ≤ 4 := by
    intro last r
    induction r generalizing last with
    | nil => intro _ _ i s hs; cases hs
    | cons a r ih =>
      intro hl h i s hs
      rw [certFrom, Bool.and_eq_true] at h
      have h1 := srcOk_iff.1 h.1
      cases i with
      | zero =>
        obtain rfl : a = s := by simpa using hs
        omega
      | succ i => exact ih _ (by omega) h.2 i s (by simpa using hs)
  exact hf _ _ (by omega) h i s hs
theorem blk_len {d : Dsc} {o per : Nat} (h : o + per ≤ d.secs.length) : (blkF d o per).length = per := by unfold blkF; simp; omega
theorem blk_at {d : Dsc} {o per j : Nat} {s : Sec} (hj : j < per) (hs : d.secs[o + j]? = some s) : (blkF d o per)[j]? = some s.data := by
  unfold blkF
  rw [List.getElem?_map, List.getElem?_take_of_lt hj, List.getElem?_drop, hs]; rfl
theorem blk_next {d : Dsc} {o j : Nat} {s : Sec} {acc : List ByteArray} (hs : d.secs[o + j]? = some s) (H : Hid (acc = blkF d o j)) : Hid (acc ++ [s.data] = blkF d o (j + 1)) := by
  refine Lib.hid ?_
  rw [H.out]
  unfold blkF
  obtain ⟨hk, e⟩ := List.getElem?_eq_some_iff.1 hs
  rw [List.take_succ_eq_append_getElem (by rw [List.length_drop]; omega), List.map_append, List.getElem_drop, e]; rfl
theorem r2_out {bl : List ByteArray} {L : List Int} {p q : ByteArray} (h : (r2E bl L p q).2 = 0) : (r2E bl L p q).1.length = bl.length := by
  unfold r2E at h ⊢
  split
  · rename_i h1; rw [if_pos h1] at h; cases h
  · rename_i h1
    rw [if_neg h1] at h
    split
    · rename_i h2; rw [if_pos h2] at h; cases h
    · rename_i h2
      rw [if_neg h2] at h
      split
      · rename_i h3; rw [if_pos h3] at h; cases h
      · rw [out_len, left_len]
/-- a lost block cannot be restored without parity -/
theorem r2_none {bl : List ByteArray} {L : List Int} {p q : ByteArray} (hp : p.size = 0) (hq : q.size = 0) (hL : L ≠ []) : ((r2E bl L p q).2 == 0) = false := by
  unfold r2E
  split
  · rfl
  · split
    · rfl
    · rw [if_pos (by unfold cntL e1; rw [if_pos hp, if_pos hq]; have := List.length_pos_iff.2 hL; omega)]; rfl
def r2T (e : Evd) (d : Dsc) (l : List Src) (t : Nat) : List ByteArray × Int := r2E (blkF d (t * d.per.toNat) d.per.toNat) (losF l (t * d.per.toNat) d.per.toNat) (e.p.getD t .empty) (e.q.getD t .empty)
def pcB (e : Evd) (d : Dsc) (l : List Src) (t j : Nat) : Bool := !(kinN ((t * d.per.toNat + j : Nat) : Int) l == 4) || ((r2T e d l t).1.getD j .empty).toList == ((blkF d (t * d.per.toNat) d.per.toNat).getD j .empty).toList
theorem par_code {e : Evd} {d : Dsc} {l : List Src} {t : Nat} (h : ((r2T e d l t).2 == 0) = false) : parC e d l t = false := by
  unfold parC; unfold r2T at h; rw [h, Bool.false_and]
theorem par_bad1 {e : Evd} {d : Dsc} {l : List Src} {t j : Nat} (hj : j < d.per.toNat) (h : pcB e d l t j = false) : parC e d l t = false := by
  unfold parC
  rw [Bool.and_eq_false_iff]
  refine .inr ?_
  rw [← Bool.not_eq_true, List.all_eq_true]
  intro hh
  have := hh j (List.mem_range.2 hj)
  unfold pcB r2T at h
  rw [h] at this; cases this
theorem par_good {e : Evd} {d : Dsc} {l : List Src} {t : Nat} (h : ((r2T e d l t).2 == 0) = true) (hj : ∀ j, j < d.per.toNat → pcB e d l t j = true) : parC e d l t = true := by
  unfold parC
  unfold r2T at h
  rw [h, Bool.true_and, List.all_eq_true]
  intro j hm
  exact hj j (List.mem_range.1 hm)
theorem pcB_other {e : Evd} {d : Dsc} {l : List Src} {t j : Nat} (h : (kinN ((t * d.per.toNat + j : Nat) : Int) l == 4) = false) : pcB e d l t j = true := by unfold pcB; rw [h]; rfl
theorem pcB_at {e : Evd} {d : Dsc} {l : List Src} {t j : Nat} {a : ByteArray} {s : Sec} (hj : j < d.per.toNat) (ha : (r2T e d l t).1[j]? = some a) (hs : d.secs[t * d.per.toNat + j]? = some s) : pcB e d l t j = (!(kinN ((t * d.per.toNat + j : Nat) : Int) l == 4) || a.toList == s.data.toList) := by
  unfold pcB
  rw [List.getD_eq_getElem?_getD, ha, List.getD_eq_getElem?_getD, blk_at hj hs]; rfl
theorem los_bd {l : List Src} {o per : Nat} {x : Int} (h : x ∈ losF l o per) : ∃ j : Nat, x = j ∧ j < per ∧ losB l o j = true := by
  rw [los_flt] at h; exact flt_mem h
theorem par_all {e : Evd} {d : Dsc} {l : List Src} {t : Nat} (h : ((r2T e d l t).2 == 0) = true) (hj : ∀ (i : Nat) (x : Int), (losF l (t * d.per.toNat) d.per.toNat)[i]? = some x → pcB e d l t x.toNat = true) : parC e d l t = true := by
  refine par_good h fun j hlt => ?_
  cases hk : (kinN ((t * d.per.toNat + j : Nat) : Int) l == 4)
  · exact pcB_other hk
  · have hm : (j : Int) ∈ losF l (t * d.per.toNat) d.per.toNat := by
      rw [los_flt]; exact flt_has hlt (by unfold losB; rw [hk]; rfl)
    obtain ⟨i, hi⟩ := List.getElem?_of_mem hm
    exact hj i _ hi
end Go.Proofs.YtfcdienphillnaaGreat
namespace Go.Proofs.YtfcdienphillnaaGreat
set_option linter.unusedVariables false
set_option linter.unusedSimpArgs false
open Go.RowKit
theorem sameG_iff {a b : Dsc} : sameG a b = true ↔ a.cyl = b.cyl ∧ a.heads = b.heads ∧ a.per = b.per ∧ a.size = b.size := by
  unfold sameG
  simp only [Bool.and_eq_true, beq_iff_eq]
  exact ⟨fun ⟨⟨⟨a, b⟩, c⟩, d⟩ => ⟨a, b, c, d⟩, fun ⟨a, b, c, d⟩ => ⟨⟨⟨a, b⟩, c⟩, d⟩⟩
theorem sameG_comm (a b : Dsc) : sameG a b = sameG b a := by
  rw [Bool.eq_iff_iff, sameG_iff, sameG_iff]
  exact ⟨fun ⟨a, b, c, d⟩ => ⟨a.symm, b.symm, c.symm, d.symm⟩, fun ⟨a, b, c, d⟩ => ⟨a.symm, b.symm, c.symm, d.symm⟩⟩
/-- valid evidence -/
structure EvF (e : Evd) (z : Dsc) (P m T : Nat) : Prop where
  z0 : e.ds[0]? = some z
  zok : discOk z = true
  per : z.per = P
  siz : m = szN z.size
  p1 : 1 ≤ P
  p8 : P ≤ 8
  secs : z.secs.length = T * P
  tt : (T : Int) = z.cyl * z.heads
  t1 : 1 ≤ T
  t16 : T ≤ 16
  d1 : 1 ≤ e.ds.length
  d5 : e.ds.length ≤ 5
  dok : ∀ d ∈ e.ds, discOk d = true ∧ sameG d z = true
  dss : ∀ d ∈ e.ds, d.secs.length = T * P
  crl : e.cr.length = T * P
  pl : e.p.length = T
  ql : e.q.length = T
  ps : ∀ s ∈ e.p, s.size = 0 ∨ s.size = m
  qs : ∀ s ∈ e.q, s.size = 0 ∨ s.size = m
  dm : ∀ d ∈ e.ds, ∀ s ∈ d.secs, s.data.size = m
  m1 : 1 ≤ m
  m2 : m ≤ 32
  cr : ∀ u ∈ e.cr, inB u (-1) 65535 = true
theorem disc_secs {d : Dsc} (h : discOk d = true) : (d.secs.length : Int) = d.cyl * d.heads * d.per ∧ ∀ s ∈ d.secs, secOk s (szN d.size) = true := by
  unfold discOk at h
  simp only [Bool.and_eq_true, List.all_eq_true, beq_iff_eq] at h
  exact ⟨h.2.1, h.2.2⟩
theorem sec_size {s : Sec} {n : Nat} (h : secOk s n = true) : s.data.size = n ∧ 1 ≤ s.state ∧ s.state ≤ 4 := by
  unfold secOk at h
  simp only [Bool.and_eq_true, decide_eq_true_eq] at h
  have := inB_yes h.1.1
  exact ⟨h.1.2, this.1, this.2⟩
theorem par_parts {z : Dsc} {l : List ByteArray} (h : parOk z l = true) : (l.length : Int) = z.cyl * z.heads ∧ ∀ s ∈ l, s.size = 0 ∨ s.size = szN z.size := by
  unfold parOk at h
  simp only [Bool.and_eq_true, List.all_eq_true, beq_iff_eq] at h
  refine ⟨h.1, fun s hs => ?_⟩
  have := h.2 s hs
  unfold parB at this
  rw [Bool.or_eq_true] at this
  exact this.imp of_decide_eq_true of_decide_eq_true
theorem ev_f {e : Evd} (h : evOk e = true) : ∃ z P m T, EvF e z P m T := by
  have hd : dumpsOk e.ds = true := by unfold evOk at h; rw [Bool.and_eq_true] at h; exact h.1
  obtain ⟨z, hz⟩ := dps_first hd
  have hev := ev_at hd hz
  rw [h] at hev
  have hzok := dps_ok hd hz
  obtain ⟨g1, g2, g3, g4⟩ := geo_parts (disc_geo hzok)
  obtain ⟨m1, m2⟩ := prod_bd g1 g2 g3
  obtain ⟨s1, s2⟩ := disc_secs hzok
  obtain ⟨P, hP⟩ : ∃ P : Nat, z.per = P := ⟨z.per.toNat, by omega⟩
  obtain ⟨T, hT⟩ : ∃ T : Nat, (T : Int) = z.cyl * z.heads := ⟨(z.cyl * z.heads).toNat, by omega⟩
  have hTP : ∀ n : Nat, (n : Int) = z.cyl * z.heads * z.per → n = T * P := fun n hn => by
    rw [← hT, hP] at hn; exact_mod_cast hn
  have h5 : e.ds.length ≤ 5 := by
    by_cases h5 : 5 < e.ds.length
    · rw [du_long h5] at hd; cases hd
    · omega
  have hall := du_at hz h5
  rw [hd] at hall
  have hdk : ∀ d ∈ e.ds, discOk d = true ∧ sameG d z = true := fun d hm => by
    have := List.all_eq_true.1 hall.symm d hm
    rwa [Bool.and_eq_true] at this
  unfold evR at hev
  have hev := hev.symm
  simp only [Bool.and_eq_true, List.all_eq_true, beq_iff_eq] at hev
  obtain ⟨e1, e2, e3, e4⟩ := hev
  obtain ⟨p1, p2⟩ := par_parts e3
  obtain ⟨q1, q2⟩ := par_parts e4
  have hsz := szN_le g4
  refine ⟨z, P, szN z.size, T, hz, hzok, hP, rfl, by omega, by omega, hTP _ s1, hT, by omega, by omega, (List.getElem?_eq_some_iff.1 hz).1, h5, hdk, fun d hm => ?_, e1.trans (hTP _ s1), by omega, by omega, p2, q2, fun d hm s hs => ?_, by omega, by omega, e2⟩
  · obtain ⟨a, b⟩ := hdk d hm
    obtain ⟨c1, c2, c3, c4⟩ := sameG_iff.1 b
    have := (disc_secs a).1
    rw [c1, c2, c3] at this
    exact hTP _ this
  · obtain ⟨a, b⟩ := hdk d hm
    obtain ⟨c1, c2, c3, c4⟩ := sameG_iff.1 b
    have := (sec_size ((disc_secs a).2 s hs)).1
    rw [c4] at this
    exact this
/-- a valid question -/
structure AskF (e : Evd) (d : Dsc) (l : List Src) (P m T : Nat) : Prop where
  ev : ∃ z, EvF e z P m T
  per : d.per = P
  secs : d.secs.length = T * P
  sm : ∀ s ∈ d.secs, s.data.size = m
  cert : certOk l = true
theorem ask_f {e : Evd} {d : Dsc} {l : List Src} (h : askB e d l = true) : ∃ P m T, AskF e d l P m T := by
  unfold askB at h
  simp only [Bool.and_eq_true] at h
  obtain ⟨h1, h2, h3, h4⟩ := h
  obtain ⟨z, P, m, T, F⟩ := ev_f h1
  have hz : e.ds.headD default = z := by
    have := F.z0
    cases hd : e.ds with
    | nil => rw [hd] at this; cases this
    | cons a r => rw [hd] at this; simpa using this
  rw [hz] at h4
  obtain ⟨c1, c2, c3, c4⟩ := sameG_iff.1 h4
  obtain ⟨s1, s2⟩ := disc_secs h2
  refine ⟨P, m, T, ⟨z, F⟩, c3.trans F.per, ?_, fun s hs => ?_, h3⟩
  · rw [c1, c2, c3, ← F.tt, F.per] at s1; exact_mod_cast s1
  · rw [F.siz, ← c4]; exact (sec_size (s2 s hs)).1
section
variable {e : Evd} {d : Dsc} {l : List Src} {s : Src} {x : Sec}
theorem src_none (h : d.secs[s.sector.toNat]? = none) : srcC e d l s = false := by unfold srcC; rw [h]
theorem src_st (h : d.secs[s.sector.toNat]? = some x) (h1 : ¬ x.state = 1) : srcC e d l s = false := by
  unfold srcC; rw [h]; show (x.state == 1 && _) = false; rw [beq_eq_false_iff_ne.2 h1, Bool.false_and]
theorem src_nofit (h : d.secs[s.sector.toNat]? = some x) (h1 : fitB e.cr s.sector.toNat x.data = false) : srcC e d l s = false := by
  unfold srcC; rw [h]; show (x.state == 1 && (fitB e.cr s.sector.toNat x.data && _)) = false; rw [h1, Bool.false_and, Bool.and_false]
theorem src_go (h : d.secs[s.sector.toNat]? = some x) (h1 : x.state = 1) (h2 : fitB e.cr s.sector.toNat x.data = true) : srcC e d l s = (if s.kind = 1 then (match e.ds[s.dump.toNat]? with
          | none => false
          | some y => (match y.secs[s.sector.toNat]? with
            | none => false
            | some z => z.data.toList == x.data.toList && z.state == 1))
        else if s.kind = 2 then (voteE (rdF s.sector.toNat e.ds)).2 && (voteE (rdF s.sector.toNat e.ds)).1.toList == x.data.toList
        else if s.kind = 3 then (slvE e s.sector.toNat).2 && (slvE e s.sector.toNat).1.toList == x.data.toList
        else parC e d l (s.sector.toNat / d.per.toNat)) := by
  unfold srcC; rw [h]
  show (x.state == 1 && (fitB e.cr s.sector.toNat x.data && _)) = _
  rw [h1, h2]; rfl
theorem src_dump_no (h : d.secs[s.sector.toNat]? = some x) (h1 : x.state = 1) (h2 : fitB e.cr s.sector.toNat x.data = true) (hk : s.kind = 1) (hn : e.ds[s.dump.toNat]? = none) : srcC e d l s = false := by rw [src_go h h1 h2, if_pos hk, hn]
theorem src_dump (h : d.secs[s.sector.toNat]? = some x) (h1 : x.state = 1) (h2 : fitB e.cr s.sector.toNat x.data = true) (hk : s.kind = 1) {y : Dsc} {z : Sec} (hn : e.ds[s.dump.toNat]? = some y) (hz : y.secs[s.sector.toNat]? = some z) : srcC e d l s = (z.data.toList == x.data.toList && z.state == 1) := by rw [src_go h h1 h2, if_pos hk, hn]; show (match y.secs[s.sector.toNat]? with | none => false | some z => z.data.toList == x.data.toList && z.state == 1) = _; rw [hz]
theorem src_vote (h : d.secs[s.sector.toNat]? = some x) (h1 : x.state = 1) (h2 : fitB e.cr s.sector.toNat x.data = true) (hk : s.kind = 2) : srcC e d l s = ((voteE (rdF s.sector.toNat e.ds)).2 && (voteE (rdF s.sector.toNat e.ds)).1.toList == x.data.toList) := by rw [src_go h h1 h2, if_neg (by omega), if_pos hk]
theorem src_solve (h : d.secs[s.sector.toNat]? = some x) (h1 : x.state = 1) (h2 : fitB e.cr s.sector.toNat x.data = true) (hk : s.kind = 3) : srcC e d l s = ((slvE e s.sector.toNat).2 && (slvE e s.sector.toNat).1.toList == x.data.toList) := by rw [src_go h h1 h2, if_neg (by omega), if_neg (by omega), if_pos hk]
theorem src_par (h : d.secs[s.sector.toNat]? = some x) (h1 : x.state = 1) (h2 : fitB e.cr s.sector.toNat x.data = true) (hk : s.kind = 4) : srcC e d l s = parC e d l (s.sector.toNat / d.per.toNat) := by rw [src_go h h1 h2, if_neg (by omega), if_neg (by omega), if_neg (by omega)]
end
end Go.Proofs.YtfcdienphillnaaGreat
