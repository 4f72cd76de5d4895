/- What the check of a source computes: the plain law. The draws of evidence: the bytes of a sector. What a valid question of a certificate holds: the plain law. The first source of a sector: the plain law. -/
import Derived.Test.YtddihmpiaemadaaGreatDoorFc05
import Derived.Test.YtddihmpiaemadaaGreatDoorFc06
import Derived.Test.YtddihmpiaemadaaGreatDoorFc14
import Derived.Test.YtddihmpiaemadaaGreatDoorFc17
import Derived.Test.YtddihmpiaemadaaGreatDoorFc02
namespace Go.Proofs.YtddihmpiaemadaaGreatDoor
set_option linter.unusedVariables false
set_option linter.unusedSimpArgs false
open Go.RowKit
/-- bytes fit a sector's check value -/
def fitB (cr : List Int) (k : Nat) (s : ByteArray) : Bool := cr.getD k 0 == -1 || (crcB s : Int) == cr.getD k 0
/-- the readings of a sector -/
def rdL : List Sec → List ByteArray
  | [] => []
  | s :: r => if s.state == 3 then rdL r else s.data :: rdL r
def rdF (k : Nat) (ds : List Dsc) : List ByteArray := rdL (ds.map fun d => d.secs.getD k ⟨.empty, 0⟩)
theorem rdL_len (l : List Sec) : (rdL l).length ≤ l.length := by
  induction l with
  | nil => exact Nat.le_refl _
  | cons a r ih =>
    unfold rdL
    split
    · exact Nat.le_trans ih (Nat.le_succ _)
    · simpa using ih
theorem rdF_len (k : Nat) (ds : List Dsc) : (rdF k ds).length ≤ ds.length := by
  have := rdL_len (ds.map fun d => d.secs.getD k ⟨.empty, 0⟩)
  unfold rdF; simpa using this
/-- the places at which readings differ -/
def diB (D : List ByteArray) (i : Nat) : Bool := D.any fun s => s.data.toList.getD i 0 != (D.getD 0 .empty).data.toList.getD i 0
def difF (D : List ByteArray) : List Int := ((List.range (voteN D)).filter (diB D)).map fun i : Nat => (i : Int)
/-- the bytes that a check value yields -/
def slvE (e : Evd) (k : Nat) : ByteArray × Bool :=
  if e.cr.getD k 0 < 0 ∨ rdF k e.ds = [] then (.empty, false)
  else ((sbE ((rdF k e.ds).getD 0 .empty) (difF (rdF k e.ds)) (e.cr.getD k 0)).1, (sbE ((rdF k e.ds).getD 0 .empty) (difF (rdF k e.ds)) (e.cr.getD k 0)).2 == 0)
/-- the sectors of a track that no source or parity has -/
def losB (l : List Src) (o : Nat) (j : Nat) : Bool := kinN ((o + j : Nat) : Int) l == 4 || kinN ((o + j : Nat) : Int) l == 0
def losF (l : List Src) (o per : Nat) : List Int := ((List.range per).filter (losB l o)).map fun i : Nat => (i : Int)
def blkF (d : Dsc) (o per : Nat) : List ByteArray := ((d.secs.drop o).take per).map Sec.data
/-- the sectors of a track with parity as their source come from it -/
def parC (e : Evd) (d : Dsc) (l : List Src) (t : Nat) : Bool :=
  (r2E (blkF d (t * d.per.toNat) d.per.toNat) (losF l (t * d.per.toNat) d.per.toNat) (e.p.getD t .empty) (e.q.getD t .empty)).2 == 0 &&
  (List.range d.per.toNat).all fun j => !(kinN ((t * d.per.toNat + j : Nat) : Int) l == 4) ||
    ((r2E (blkF d (t * d.per.toNat) d.per.toNat) (losF l (t * d.per.toNat) d.per.toNat) (e.p.getD t .empty) (e.q.getD t .empty)).1.getD j .empty).toList == ((blkF d (t * d.per.toNat) d.per.toNat).getD j .empty).toList
/-- the data of a sector come from their source -/
def srcC (e : Evd) (d : Dsc) (l : List Src) (s : Src) : Bool :=
  match d.secs[s.sector.toNat]? with
  | none => false
  | some x => x.state == 1 && (fitB e.cr s.sector.toNat x.data &&
      (if s.kind = 1 then (match e.ds[s.dump.toNat]? with
          | none => false
          | some y => (match y.secs[s.sector.toNat]? with
            | none => false
            | some z => z.data.toList == x.data.toList && z.state == 1))
        else if s.kind = 2 then (voteE (rdF s.sector.toNat e.ds)).2 && (voteE (rdF s.sector.toNat e.ds)).1.toList == x.data.toList
        else if s.kind = 3 then (slvE e s.sector.toNat).2 && (slvE e s.sector.toNat).1.toList == x.data.toList
        else parC e d l (s.sector.toNat / d.per.toNat)))
def askB (e : Evd) (d : Dsc) (l : List Src) : Bool := evOk e && (discOk d && (certOk l && sameG d (e.ds.headD default)))
def chkS (e : Evd) (d : Dsc) (l : List Src) (k : Int) : Bool := askB e d l && (inB k 0 ((l.length : Int) - 1) && (match l[k.toNat]? with
  | none => false
  | some s => srcC e d l s))
theorem stopQ {p : Prop} (h : True → p) : p := h trivial
theorem cell_alloc2 (w : World) (o : Obj) (u : Value) (t : TypeId) : ((w.alloc o).alloc (.cells #[u] t)).cell? ⟨w.heap.size + 1, 0, none⟩ = some u := by
  have h : (w.alloc o).heap.size = w.heap.size + 1 := by simp
  have := World.cell?_alloc_new (w.alloc o) #[u] t 0
  rw [h] at this
  exact this
theorem cell_alloc3 (w : World) (o o' : Obj) (u : Value) (t : TypeId) : (((w.alloc o).alloc o').alloc (.cells #[u] t)).cell? ⟨w.heap.size + 1 + 1, 0, none⟩ = some u := by
  have h : ((w.alloc o).alloc o').heap.size = w.heap.size + 1 + 1 := by simp
  have := World.cell?_alloc_new ((w.alloc o).alloc o') #[u] t 0
  rw [h] at this
  exact this
theorem below_drewNQ {B : Nat} {a w : World} (h : Below B a w) (n : Nat) : Below B a (w.drewN n) := h.trans ⟨rfl, rfl, rfl, Nat.le_refl _, fun _ _ => rfl⟩
theorem cell_allocD (w : World) (n : Nat) (u : Value) (t : TypeId) : ((w.drewN n).alloc (.cells #[u] t)).cell? ⟨w.heap.size, 0, none⟩ = some u := World.cell?_alloc_new (w.drewN n) #[u] t 0
/-! filters over a range -/
def fltN (P : Nat → Bool) (n : Nat) : List Int := ((List.range n).filter P).map fun i : Nat => (i : Int)
theorem flt_yes {P : Nat → Bool} {n : Nat} {acc : List Int} (H : Hid (acc = fltN P n)) (h : P n = true) : Hid (acc ++ [(n : Int)] = fltN P (n + 1)) :=
  Lib.hid (by rw [H.out]; unfold fltN; rw [List.range_succ, List.filter_append, List.filter_cons_of_pos h, List.map_append]; rfl)
theorem flt_no {P : Nat → Bool} {n : Nat} {acc : List Int} (H : Hid (acc = fltN P n)) (h : P n = false) : Hid (acc = fltN P (n + 1)) :=
  Lib.hid (by rw [H.out]; unfold fltN; rw [List.range_succ, List.filter_append, List.filter_cons_of_neg (by rw [h]; decide), List.filter_nil, List.append_nil])
theorem flt_len (P : Nat → Bool) (n : Nat) : (fltN P n).length ≤ n := by
  unfold fltN; rw [List.length_map]; exact Nat.le_trans (List.length_filter_le _ _) (by simp)
theorem flt_mem {P : Nat → Bool} {n : Nat} {x : Int} (h : x ∈ fltN P n) : ∃ k : Nat, x = k ∧ k < n ∧ P k = true := by
  unfold fltN at h
  obtain ⟨k, hk, rfl⟩ := List.mem_map.1 h
  have := List.mem_filter.1 hk
  exact ⟨k, rfl, List.mem_range.1 this.1, this.2⟩
theorem flt_has {P : Nat → Bool} {n k : Nat} (hk : k < n) (h : P k = true) : (k : Int) ∈ fltN P n := by
  unfold fltN
  exact List.mem_map.2 ⟨k, List.mem_filter.2 ⟨List.mem_range.2 hk, h⟩, rfl⟩
theorem dif_flt (D : List ByteArray) : difF D = fltN (diB D) (voteN D) := rfl
theorem los_flt (l : List Src) (o per : Nat) : losF l o per = fltN (losB l o) per := rfl
theorem byte_at {s : ByteArray} {i : Nat} (hi : i < s.size) : s.data.toList.getD i 0 = s[i] := by
  rw [List.getD_eq_getElem?_getD, List.getElem?_eq_getElem (by simpa using hi)]; rfl
theorem di_yes {D : List ByteArray} {s0 s : ByteArray} {k i : Nat} (h0 : D[0]? = some s0) (hs : D[k]? = some s) (hi0 : i < s0.size) (hi : i < s.size) (h : ((s[i].toNat : Int) != (s0[i].toNat : Int)) = true) : diB D i = true := by
  unfold diB
  refine List.any_eq_true.2 ⟨s, List.mem_of_getElem? hs, ?_⟩
  rw [show D.getD 0 .empty = s0 by rw [List.getD_eq_getElem?_getD, h0]; rfl, byte_at hi, byte_at hi0]
  rw [bne_iff_ne] at h ⊢
  intro e; rw [e] at h; exact h rfl
theorem di_no {D : List ByteArray} {s0 : ByteArray} {i : Nat} (h0 : D[0]? = some s0) (hi0 : i < s0.size) (h : ∀ (k : Nat) (s : ByteArray), D[k]? = some s → ∃ hi : i < s.size, ((s[i].toNat : Int) != (s0[i].toNat : Int)) = false) : diB D i = false := by
  unfold diB
  rw [← Bool.not_eq_true, List.any_eq_true]
  rintro ⟨s, hs, hb⟩
  obtain ⟨k, hk⟩ := List.getElem?_of_mem hs
  obtain ⟨hi, e⟩ := h k s hk
  rw [show D.getD 0 .empty = s0 by rw [List.getD_eq_getElem?_getD, h0]; rfl, byte_at hi, byte_at hi0] at hb
  rw [bne_iff_ne] at hb
  rw [bne_eq_false_iff_eq] at e
  exact hb (UInt8.toNat_inj.1 (by omega))
/-- the readings have one size -/
theorem rd_size {n : Nat} {k : Nat} {ds : List Dsc} (h : ∀ d ∈ ds, ∀ s ∈ d.secs, s.data.size = n) (hk : ∀ d ∈ ds, k < d.secs.length) : ∀ s ∈ rdF k ds, s.size = n := by
  have hl : ∀ l : List Sec, (∀ s ∈ l, s.data.size = n) → ∀ s ∈ rdL l, s.size = n := by
    intro l
    induction l with
    | nil => intro _ s hs; cases hs
    | cons a r ih =>
      intro h s hs
      unfold rdL at hs
      split at hs
      · exact ih (fun s h' => h s (List.mem_cons_of_mem _ h')) s hs
      · rcases List.mem_cons.1 hs with rfl | hs
        · exact h a List.mem_cons_self
        · exact ih (fun s h' => h s (List.mem_cons_of_mem _ h')) s hs
  refine hl _ fun s hs => ?_
  obtain ⟨d, hd, rfl⟩ := List.mem_map.1 hs
  have := hk d hd
  rw [List.getD_eq_getElem?_getD, List.getElem?_eq_getElem this]
  exact h d hd _ (List.getElem_mem _)
theorem slv_no {e : Evd} {k : Nat} (h : e.cr.getD k 0 < 0 ∨ rdF k e.ds = []) : slvE e k = (.empty, false) := by unfold slvE; rw [if_pos h]
theorem slv_yes {e : Evd} {k : Nat} {c : Int} {s0 : ByteArray} (hc : e.cr[k]? = some c) (h0 : (rdF k e.ds)[0]? = some s0) (h : ¬ c < 0) : slvE e k = ((sbE s0 (fltN (diB (rdF k e.ds)) s0.size) c).1, (sbE s0 (fltN (diB (rdF k e.ds)) s0.size) c).2 == 0) := by
  unfold slvE
  rw [show e.cr.getD k 0 = c by rw [List.getD_eq_getElem?_getD, hc]; rfl, if_neg (by rintro (h' | h'); exact h h'; rw [h'] at h0; cases h0), dif_flt, show voteN (rdF k e.ds) = s0.size by unfold voteN; rw [List.getD_eq_getElem?_getD, h0]; rfl, show (rdF k e.ds).getD 0 .empty = s0 by rw [List.getD_eq_getElem?_getD, h0]; rfl]
theorem src_bd {l : List Src} (h : certOk l = true) {i : Nat} {s : Src} (hs : l[i]? = some s) : 1 ≤ s.kind ∧ s.kind ≤ 4 ∧ 0 ≤ s.sector ∧ s.sector ≤ 1048576 ∧ 0 ≤ s.dump ∧ s.dump ≤ 4 := by
  have hf : ∀ (last : Int) (r : List Src), -1 ≤ last → certFrom last r = true → ∀ (i : Nat) (s : Src), r[i]? = some s → 1 ≤ s.kind ∧ s.kind ≤ 4 ∧ 0 ≤ s.sector ∧ s.sector ≤ 1048576 ∧ 0 ≤ s.dump ∧ s.dump ≤ 4 := by
    intro last r
    induction r generalizing last with
    | nil => intro _ _ i s hs; cases hs
    | cons a r ih =>
      intro hl h i s hs
      rw [certFrom, Bool.and_eq_true] at h
      have h1 := srcOk_iff.1 h.1
      cases i with
      | zero =>
        obtain rfl : a = s := by simpa using hs
        omega
      | succ i => exact ih _ (by omega) h.2 i s (by simpa using hs)
  exact hf _ _ (by omega) h i s hs
theorem blk_at {d : Dsc} {o per j : Nat} {s : Sec} (hj : j < per) (hs : d.secs[o + j]? = some s) : (blkF d o per)[j]? = some s.data := by
  unfold blkF
  rw [List.getElem?_map, List.getElem?_take_of_lt hj, List.getElem?_drop, hs]; rfl
theorem blk_next {d : Dsc} {o j : Nat} {s : Sec} {acc : List ByteArray} (hs : d.secs[o + j]? = some s) (H : Hid (acc = blkF d o j)) : Hid (acc ++ [s.data] = blkF d o (j + 1)) := by
  refine Lib.hid ?_
  rw [H.out]
  unfold blkF
  obtain ⟨hk, e⟩ := List.getElem?_eq_some_iff.1 hs
  rw [List.take_succ_eq_append_getElem (by rw [List.length_drop]; omega), List.map_append, List.getElem_drop, e]; rfl
theorem r2_out {bl : List ByteArray} {L : List Int} {p q : ByteArray} (h : (r2E bl L p q).2 = 0) : (r2E bl L p q).1.length = bl.length := by
  unfold r2E at h ⊢
  split
  · rename_i h1; rw [if_pos h1] at h; cases h
  · rename_i h1
    rw [if_neg h1] at h
    split
    · rename_i h2; rw [if_pos h2] at h; cases h
    · rename_i h2
      rw [if_neg h2] at h
      split
      · rename_i h3; rw [if_pos h3] at h; cases h
      · rw [out_len, left_len]
def r2T (e : Evd) (d : Dsc) (l : List Src) (t : Nat) : List ByteArray × Int := r2E (blkF d (t * d.per.toNat) d.per.toNat) (losF l (t * d.per.toNat) d.per.toNat) (e.p.getD t .empty) (e.q.getD t .empty)
def pcB (e : Evd) (d : Dsc) (l : List Src) (t j : Nat) : Bool := !(kinN ((t * d.per.toNat + j : Nat) : Int) l == 4) || ((r2T e d l t).1.getD j .empty).toList == ((blkF d (t * d.per.toNat) d.per.toNat).getD j .empty).toList
theorem par_code {e : Evd} {d : Dsc} {l : List Src} {t : Nat} (h : ((r2T e d l t).2 == 0) = false) : parC e d l t = false := by
  unfold parC; unfold r2T at h; rw [h, Bool.false_and]
theorem par_bad1 {e : Evd} {d : Dsc} {l : List Src} {t j : Nat} (hj : j < d.per.toNat) (h : pcB e d l t j = false) : parC e d l t = false := by
  unfold parC
  rw [Bool.and_eq_false_iff]
  refine .inr ?_
  rw [← Bool.not_eq_true, List.all_eq_true]
  intro hh
  have := hh j (List.mem_range.2 hj)
  unfold pcB r2T at h
  rw [h] at this; cases this
theorem par_good {e : Evd} {d : Dsc} {l : List Src} {t : Nat} (h : ((r2T e d l t).2 == 0) = true) (hj : ∀ j, j < d.per.toNat → pcB e d l t j = true) : parC e d l t = true := by
  unfold parC
  unfold r2T at h
  rw [h, Bool.true_and, List.all_eq_true]
  intro j hm
  exact hj j (List.mem_range.1 hm)
theorem pcB_other {e : Evd} {d : Dsc} {l : List Src} {t j : Nat} (h : (kinN ((t * d.per.toNat + j : Nat) : Int) l == 4) = false) : pcB e d l t j = true := by unfold pcB; rw [h]; rfl
theorem pcB_at {e : Evd} {d : Dsc} {l : List Src} {t j : Nat} {a : ByteArray} {s : Sec} (hj : j < d.per.toNat) (ha : (r2T e d l t).1[j]? = some a) (hs : d.secs[t * d.per.toNat + j]? = some s) : pcB e d l t j = (!(kinN ((t * d.per.toNat + j : Nat) : Int) l == 4) || a.toList == s.data.toList) := by
  unfold pcB
  rw [List.getD_eq_getElem?_getD, ha, List.getD_eq_getElem?_getD, blk_at hj hs]; rfl
end Go.Proofs.YtddihmpiaemadaaGreatDoor
namespace Go.Proofs.YtddihmpiaemadaaGreatDoor
set_option linter.unusedVariables false
set_option linter.unusedSimpArgs false
open Go.RowKit
set_option maxRecDepth 20000 in
set_option maxHeartbeats 4000000 in
theorem dat_s (g : Nat) (A : Option Addr) (n c a z : Nat) (w : World) (h : DrAt w g A n c a) (hn : n ≤ 1048576) (ha : a ≤ 1073741824) (hz : z ≤ 1048576) (hzp : 1 ≤ z) :
    Calls Tryz.prog 74 #[.pointer (some ⟨g, 0, none⟩), .int .i64 z] w fun e w' => ∃ (s : ByteArray) (a' : Nat), e = .returned (.string s) ∧ s.size = z ∧ a' ≤ a + 2 + 3 * z ∧ DrAt w' g A n c a' ∧ Chg g (g + 1) w w' := by
  obtain ⟨i1, ji, jz0, jz1, jz2⟩ := info_parts ucell_info
  have hg := h.lt
  have D0 := h.alloc (.cells #[.int .i64 0, .int .i64 65, .int .i64 229, .int .i64 78] 2)
  have C0 : Chg g (g + 1) w (w.alloc (.cells #[.int .i64 0, .int .i64 65, .int .i64 229, .int .i64 78] 2)) := (Chg.of_below (Below.refl _ _)).alloc _
  go_enter Tryz.func74, Tryz.ntmps74
  go_wp2_with (fail)
  refine (among_s g A n c a w.heap.size 4 [0, 65, 229, 78] _ D0 hn (by omega) (by simp) (by simp) hg (by simp) ?_).mono ?_
  · intro j x hj
    match j, hj with
    | 0, hj => simp at hj; subst hj; simp
    | 1, hj => simp at hj; subst hj; simp
    | 2, hj => simp at hj; subst hj; simp
    | 3, hj => simp at hj; subst hj; simp
    | j + 4, hj => simp at hj
  rintro e w1 ⟨x, hx, rfl, a1, h11, h12, D1, C1, S1⟩
  obtain ⟨r, rfl, hr⟩ : ∃ r : Nat, x = r ∧ r < 256 := by
    simp at hx
    rcases hx with rfl | rfl | rfl | rfl
    · exact ⟨0, rfl, by omega⟩
    · exact ⟨65, rfl, by omega⟩
    · exact ⟨229, rfl, by omega⟩
    · exact ⟨78, rfl, by omega⟩
  have C01 := C0.trans C1
  have hz1 : w.heap.size ≤ w1.heap.size := C01.size
  have inn : BytesL w.heap.size (w1.alloc (.cells #[] 5)) (.slice (some ⟨w1.heap.size, 0, none⟩) 0 0) [] := OwnL.base (OwnL.of_empty w1 (Nat.le_refl _)) hz1
  have D2 := D1.alloc (.cells #[] 5)
  have C2 := C01.alloc (.cells #[] 5)
  clear hx h D0 C0 C1 D1 C01 S1
  go_wp2_with (fail)
  go_loopw [6, 5] (fun out b wx => ∃ (k r a' : Nat) (bl : List Nat), k ≤ z ∧ r < 256 ∧ b = .int .u8 r ∧ bl.length = k ∧ a' ≤ a + 2 + 3 * k ∧ DrAt wx g A n c a' ∧ Chg g (g + 1) w wx ∧ BytesL w.heap.size wx out bl ∧ (∃ A c, out = .slice A k c)) (fun out _ _ => match out with | .slice _ m _ => z - m | _ => 0)
  case atStart => exact ⟨0, r, a1, [], by omega, hr, rfl, rfl, by omega, D2, C2, inn, _, _, rfl⟩
  case round =>
    clear inn D2 C2 hr h11 h12
    obtain ⟨k, r, a', bl, hk, hr, rfl, hbl, ha', D, C, O, A5, c5, rfl⟩ := hrel
    have zr := C.size
    have hlb := fun q hq => (World.ownsRow.lt O q hq)
    have hg5 := D.lt
    by_cases hlt : k < z
    · have hki : (k : Int) < (z : Int) := by omega
      have HO := Lib.hid O
      have HC := Lib.hid C
      clear O C
      go_wp2_with (fail)
      refine (one_s g A n c a' 9 _ D hn (by omega) (by omega)).mono ?_; rintro e w3 ⟨b, rfl, a3, h31, h32, D3, C3, S3⟩
      have HO3 := Lib.hid (OwnL.blk HO.out (fun q hq => C3.block q (hlb q hq).2 (by have := (hlb q hq).1; omega)))
      have C03 := HC.out.trans C3
      have S3' : wr.heap.size ≤ w3.heap.size := by omega
      clear D C3 HO HC S3
      generalize hvo : Value.slice A5 k c5 = vo at *
      clear hvo
      cases b
      · go_wp2_with (at_builtin; refine stopQ ?_)
        intro _
        refine wpList_app1at ucell 1 ucell_len _ rfl _ _ _ rfl w.heap.size 5 i1 (.int .u8 0) 1 Tryz.underlying22 ji jz0 jz1 jz2 rfl (by decide) _ bl rfl (HO3.out.alloc _) w3.heap.size 1 r rfl ?_ (by simp [ucell, Value.oneCell']) (by omega) (by omega) (by simp; omega) ?_
        · intro j u hu; cases j with | zero => (simp [ucell] at hu; subst hu; simp) | succ j => simp [ucell] at hu
        intro v' w9 how hgr hat
        obtain ⟨A9, c9, hv9, _⟩ := OwnL.shape how
        have hl9 : (bl ++ [r]).length = k + 1 := by simp; omega
        rw [hl9] at hv9
        subst hv9
        have D9 := (D3.alloc (.cells #[.int .u8 (r : Int)] 5)).grown hgr (fun q hq => by have := (hlb q hq).1; omega)
        have C9 := (C03.alloc (.cells #[.int .u8 (r : Int)] 5)).grown hgr (fun q hq => (hlb q hq).1)
        have HO9 := Lib.hid how
        clear how hgr hat
        go_wp2_with (fail)
        go_roundw
        case rel => exact ⟨k + 1, r, _, bl ++ [r], by omega, by omega, by first | rfl | simp, hl9, (by omega : _ ≤ a + 2 + 3 * (k + 1)), D9, C9, HO9.out, _, _, rfl⟩
        case measure => simp; omega
      · go_wp2_with (fail)
        refine (next_s g A n c a3 _ D3 hn (by omega)).mono ?_; rintro e w4 ⟨r4, hr4, rfl, D4, C4, S4⟩
        have HO4 := Lib.hid (OwnL.blk HO3.out (fun q hq => C4.block q (by have := (hlb q hq).2; omega) (by have := (hlb q hq).1; omega)))
        have C04 := C03.trans C4
        have S4' : w3.heap.size ≤ w4.heap.size := by omega
        clear D3 C4 HO3 C03 S4
        go_wp2_with (at_builtin; refine stopQ ?_)
        intro _
        refine wpList_app1at ucell 1 ucell_len _ rfl _ _ _ rfl w.heap.size 5 i1 (.int .u8 0) 1 Tryz.underlying22 ji jz0 jz1 jz2 rfl (by decide) _ bl rfl (HO4.out.alloc _) w4.heap.size 1 r4 rfl ?_ (by simp [ucell, Value.oneCell']) (by omega) (by omega) (by simp; omega) ?_
        · intro j u hu; cases j with | zero => (simp [ucell] at hu; subst hu; simp) | succ j => simp [ucell] at hu
        intro v' w9 how hgr hat
        obtain ⟨A9, c9, hv9, _⟩ := OwnL.shape how
        have hl9 : (bl ++ [r4]).length = k + 1 := by simp; omega
        rw [hl9] at hv9
        subst hv9
        have D9 := (D4.alloc (.cells #[.int .u8 (r4 : Int)] 5)).grown hgr (fun q hq => by have := (hlb q hq).1; omega)
        have C9 := (C04.alloc (.cells #[.int .u8 (r4 : Int)] 5)).grown hgr (fun q hq => (hlb q hq).1)
        have HO9 := Lib.hid how
        clear how hgr hat
        go_wp2_with (fail)
        go_roundw
        case rel => exact ⟨k + 1, r4, _, bl ++ [r4], by omega, by omega, by first | rfl | simp, hl9, (by omega : _ ≤ a + 2 + 3 * (k + 1)), D9, C9, HO9.out, _, _, rfl⟩
        case measure => simp; omega
    · obtain rfl : k = z := by omega
      have hk0 : k ≠ 0 := by omega
      obtain ⟨gb, hgb⟩ : ∃ gb, A5 = some ⟨gb, 0, none⟩ := by
        obtain ⟨A6, c6, e6, h6⟩ := OwnL.shape O
        injection e6 with e6
        rcases h6 with h6 | ⟨gb, h6, _⟩
        · exact absurd (by rw [← hbl, h6]; rfl) hk0
        · exact ⟨gb, e6.trans h6⟩
      subst hgb
      have hst := (BytesL.buf O hbl).str (n := k) (c := c5) hbl
      go_wp2_with (fail)
      go_ret
      exact ⟨strN bl, a', rfl, by rw [strN_size]; exact hbl, ha', D, C⟩
end Go.Proofs.YtddihmpiaemadaaGreatDoor
namespace Go.Proofs.YtddihmpiaemadaaGreatDoor
set_option linter.unusedVariables false
set_option linter.unusedSimpArgs false
open Go.RowKit
theorem sameG_iff {a b : Dsc} : sameG a b = true ↔ a.cyl = b.cyl ∧ a.heads = b.heads ∧ a.per = b.per ∧ a.size = b.size := by
  unfold sameG
  simp only [Bool.and_eq_true, beq_iff_eq]
  exact ⟨fun ⟨⟨⟨a, b⟩, c⟩, d⟩ => ⟨a, b, c, d⟩, fun ⟨a, b, c, d⟩ => ⟨⟨⟨a, b⟩, c⟩, d⟩⟩
/-- valid evidence -/
structure EvF (e : Evd) (z : Dsc) (P m T : Nat) : Prop where
  z0 : e.ds[0]? = some z
  zok : discOk z = true
  per : z.per = P
  siz : m = szN z.size
  p1 : 1 ≤ P
  p8 : P ≤ 8
  secs : z.secs.length = T * P
  tt : (T : Int) = z.cyl * z.heads
  t1 : 1 ≤ T
  t16 : T ≤ 16
  d1 : 1 ≤ e.ds.length
  d5 : e.ds.length ≤ 5
  dok : ∀ d ∈ e.ds, discOk d = true ∧ sameG d z = true
  dss : ∀ d ∈ e.ds, d.secs.length = T * P
  crl : e.cr.length = T * P
  pl : e.p.length = T
  ql : e.q.length = T
  ps : ∀ s ∈ e.p, s.size = 0 ∨ s.size = m
  qs : ∀ s ∈ e.q, s.size = 0 ∨ s.size = m
  dm : ∀ d ∈ e.ds, ∀ s ∈ d.secs, s.data.size = m
  m1 : 1 ≤ m
  m2 : m ≤ 32
  cr : ∀ u ∈ e.cr, inB u (-1) 65535 = true
theorem disc_secs {d : Dsc} (h : discOk d = true) : (d.secs.length : Int) = d.cyl * d.heads * d.per ∧ ∀ s ∈ d.secs, secOk s (szN d.size) = true := by
  unfold discOk at h
  simp only [Bool.and_eq_true, List.all_eq_true, beq_iff_eq] at h
  exact ⟨h.2.1, h.2.2⟩
theorem sec_size {s : Sec} {n : Nat} (h : secOk s n = true) : s.data.size = n ∧ 1 ≤ s.state ∧ s.state ≤ 4 := by
  unfold secOk at h
  simp only [Bool.and_eq_true, decide_eq_true_eq] at h
  have := inB_yes h.1.1
  exact ⟨h.1.2, this.1, this.2⟩
theorem par_parts {z : Dsc} {l : List ByteArray} (h : parOk z l = true) : (l.length : Int) = z.cyl * z.heads ∧ ∀ s ∈ l, s.size = 0 ∨ s.size = szN z.size := by
  unfold parOk at h
  simp only [Bool.and_eq_true, List.all_eq_true, beq_iff_eq] at h
  refine ⟨h.1, fun s hs => ?_⟩
  have := h.2 s hs
  unfold parB at this
  rw [Bool.or_eq_true] at this
  exact this.imp of_decide_eq_true of_decide_eq_true
theorem ev_f {e : Evd} (h : evOk e = true) : ∃ z P m T, EvF e z P m T := by
  have hd : dumpsOk e.ds = true := by unfold evOk at h; rw [Bool.and_eq_true] at h; exact h.1
  obtain ⟨z, hz⟩ := dps_first hd
  have hev := ev_at hd hz
  rw [h] at hev
  have hzok := dps_ok hd hz
  obtain ⟨g1, g2, g3, g4⟩ := geo_parts (disc_geo hzok)
  obtain ⟨m1, m2⟩ := prod_bd g1 g2 g3
  obtain ⟨s1, s2⟩ := disc_secs hzok
  obtain ⟨P, hP⟩ : ∃ P : Nat, z.per = P := ⟨z.per.toNat, by omega⟩
  obtain ⟨T, hT⟩ : ∃ T : Nat, (T : Int) = z.cyl * z.heads := ⟨(z.cyl * z.heads).toNat, by omega⟩
  have hTP : ∀ n : Nat, (n : Int) = z.cyl * z.heads * z.per → n = T * P := fun n hn => by
    rw [← hT, hP] at hn; exact_mod_cast hn
  have h5 : e.ds.length ≤ 5 := by
    by_cases h5 : 5 < e.ds.length
    · rw [du_long h5] at hd; cases hd
    · omega
  have hall := du_at hz h5
  rw [hd] at hall
  have hdk : ∀ d ∈ e.ds, discOk d = true ∧ sameG d z = true := fun d hm => by
    have := List.all_eq_true.1 hall.symm d hm
    rwa [Bool.and_eq_true] at this
  unfold evR at hev
  have hev := hev.symm
  simp only [Bool.and_eq_true, List.all_eq_true, beq_iff_eq] at hev
  obtain ⟨e1, e2, e3, e4⟩ := hev
  obtain ⟨p1, p2⟩ := par_parts e3
  obtain ⟨q1, q2⟩ := par_parts e4
  have hsz := szN_le g4
  refine ⟨z, P, szN z.size, T, hz, hzok, hP, rfl, by omega, by omega, hTP _ s1, hT, by omega, by omega, (List.getElem?_eq_some_iff.1 hz).1, h5, hdk, fun d hm => ?_, e1.trans (hTP _ s1), by omega, by omega, p2, q2, fun d hm s hs => ?_, by omega, by omega, e2⟩
  · obtain ⟨a, b⟩ := hdk d hm
    obtain ⟨c1, c2, c3, c4⟩ := sameG_iff.1 b
    have := (disc_secs a).1
    rw [c1, c2, c3] at this
    exact hTP _ this
  · obtain ⟨a, b⟩ := hdk d hm
    obtain ⟨c1, c2, c3, c4⟩ := sameG_iff.1 b
    have := (sec_size ((disc_secs a).2 s hs)).1
    rw [c4] at this
    exact this
/-- a valid question -/
structure AskF (e : Evd) (d : Dsc) (l : List Src) (P m T : Nat) : Prop where
  ev : ∃ z, EvF e z P m T
  per : d.per = P
  secs : d.secs.length = T * P
  sm : ∀ s ∈ d.secs, s.data.size = m
  cert : certOk l = true
theorem ask_f {e : Evd} {d : Dsc} {l : List Src} (h : askB e d l = true) : ∃ P m T, AskF e d l P m T := by
  unfold askB at h
  simp only [Bool.and_eq_true] at h
  obtain ⟨h1, h2, h3, h4⟩ := h
  obtain ⟨z, P, m, T, F⟩ := ev_f h1
  have hz : e.ds.headD default = z := by
    have := F.z0
    cases hd : e.ds with
    | nil => rw [hd] at this; cases this
    | cons a r => rw [hd] at this; simpa using this
  rw [hz] at h4
  obtain ⟨c1, c2, c3, c4⟩ := sameG_iff.1 h4
  obtain ⟨s1, s2⟩ := disc_secs h2
  refine ⟨P, m, T, ⟨z, F⟩, c3.trans F.per, ?_, fun s hs => ?_, h3⟩
  · rw [c1, c2, c3, ← F.tt, F.per] at s1; exact_mod_cast s1
  · rw [F.siz, ← c4]; exact (sec_size (s2 s hs)).1
section
variable {e : Evd} {d : Dsc} {l : List Src} {s : Src} {x : Sec}
theorem src_none (h : d.secs[s.sector.toNat]? = none) : srcC e d l s = false := by unfold srcC; rw [h]
theorem src_st (h : d.secs[s.sector.toNat]? = some x) (h1 : ¬ x.state = 1) : srcC e d l s = false := by
  unfold srcC; rw [h]; show (x.state == 1 && _) = false; rw [beq_eq_false_iff_ne.2 h1, Bool.false_and]
theorem src_nofit (h : d.secs[s.sector.toNat]? = some x) (h1 : fitB e.cr s.sector.toNat x.data = false) : srcC e d l s = false := by
  unfold srcC; rw [h]; show (x.state == 1 && (fitB e.cr s.sector.toNat x.data && _)) = false; rw [h1, Bool.false_and, Bool.and_false]
theorem src_go (h : d.secs[s.sector.toNat]? = some x) (h1 : x.state = 1) (h2 : fitB e.cr s.sector.toNat x.data = true) : srcC e d l s = (if s.kind = 1 then (match e.ds[s.dump.toNat]? with
          | none => false
          | some y => (match y.secs[s.sector.toNat]? with
            | none => false
            | some z => z.data.toList == x.data.toList && z.state == 1))
        else if s.kind = 2 then (voteE (rdF s.sector.toNat e.ds)).2 && (voteE (rdF s.sector.toNat e.ds)).1.toList == x.data.toList
        else if s.kind = 3 then (slvE e s.sector.toNat).2 && (slvE e s.sector.toNat).1.toList == x.data.toList
        else parC e d l (s.sector.toNat / d.per.toNat)) := by
  unfold srcC; rw [h]
  show (x.state == 1 && (fitB e.cr s.sector.toNat x.data && _)) = _
  rw [h1, h2]; rfl
end
end Go.Proofs.YtddihmpiaemadaaGreatDoor
namespace Go.Proofs.YtddihmpiaemadaaGreatDoor
set_option linter.unusedVariables false
set_option linter.unusedSimpArgs false
open Go.RowKit
/-- the first dump whose good sector fits -/
def firD (cr : List Int) (k : Nat) : Nat → List Dsc → Option (Nat × ByteArray)
  | _, [] => none
  | i, d :: r => if ((d.secs.getD k ⟨.empty, 0⟩).state == 1 && fitB cr k (d.secs.getD k ⟨.empty, 0⟩).data) = true then some (i, (d.secs.getD k ⟨.empty, 0⟩).data) else firD cr k (i + 1) r
def firE (e : Evd) (k : Nat) : Src × ByteArray × Bool := match firD e.cr k 0 e.ds with
  | some (i, s) => (⟨1, (k : Int), (i : Int)⟩, s, true)
  | none => if ((voteE (rdF k e.ds)).2 && fitB e.cr k (voteE (rdF k e.ds)).1) = true then (⟨2, (k : Int), 0⟩, (voteE (rdF k e.ds)).1, true) else (⟨3, (k : Int), 0⟩, (slvE e k).1, (slvE e k).2)
theorem fid_yes {cr : List Int} {k i : Nat} {ds : List Dsc} {d : Dsc} {s : Sec} (hd : ds[i]? = some d) (hs : d.secs[k]? = some s) (H : Hid (firD cr k 0 ds = firD cr k i (ds.drop i))) (h : (s.state == 1 && fitB cr k s.data) = true) : firD cr k 0 ds = some (i, s.data) := by
  obtain ⟨hk, rfl⟩ := List.getElem?_eq_some_iff.1 hd
  have e : (ds[i]).secs.getD k ⟨.empty, 0⟩ = s := by rw [List.getD_eq_getElem?_getD, hs]; rfl
  rw [H.out, List.drop_eq_getElem_cons hk, firD, e, if_pos h]
theorem fid_no {cr : List Int} {k i : Nat} {ds : List Dsc} {d : Dsc} {s : Sec} (hd : ds[i]? = some d) (hs : d.secs[k]? = some s) (H : Hid (firD cr k 0 ds = firD cr k i (ds.drop i))) (h : (s.state == 1 && fitB cr k s.data) = false) : Hid (firD cr k 0 ds = firD cr k (i + 1) (ds.drop (i + 1))) := by
  obtain ⟨hk, rfl⟩ := List.getElem?_eq_some_iff.1 hd
  have e : (ds[i]).secs.getD k ⟨.empty, 0⟩ = s := by rw [List.getD_eq_getElem?_getD, hs]; rfl
  exact Lib.hid (by rw [H.out, List.drop_eq_getElem_cons hk, firD, e, if_neg (by rw [h]; decide)])
theorem fid_end {cr : List Int} {k i : Nat} {ds : List Dsc} (hk : ds.length ≤ i) (H : Hid (firD cr k 0 ds = firD cr k i (ds.drop i))) : firD cr k 0 ds = none := by
  rw [H.out, List.drop_of_length_le hk]; rfl
theorem fir_dump {e : Evd} {k i : Nat} {s : ByteArray} (h : firD e.cr k 0 e.ds = some (i, s)) : firE e k = (⟨1, (k : Int), (i : Int)⟩, s, true) := by unfold firE; rw [h]
theorem fir_vote {e : Evd} {k : Nat} (h : firD e.cr k 0 e.ds = none) (h2 : ((voteE (rdF k e.ds)).2 && fitB e.cr k (voteE (rdF k e.ds)).1) = true) : firE e k = (⟨2, (k : Int), 0⟩, (voteE (rdF k e.ds)).1, true) := by unfold firE; rw [h]; exact if_pos h2
theorem fir_solve {e : Evd} {k : Nat} (h : firD e.cr k 0 e.ds = none) (h2 : ((voteE (rdF k e.ds)).2 && fitB e.cr k (voteE (rdF k e.ds)).1) = false) : firE e k = (⟨3, (k : Int), 0⟩, (slvE e k).1, (slvE e k).2) := by unfold firE; rw [h]; exact if_neg (by rw [h2]; decide)
theorem vote_size {D : List ByteArray} {m : Nat} (h : ∀ s ∈ D, s.size = m) : (voteE D).1.size ≤ m := by
  unfold voteE
  split
  · rename_i hv
    show (strN (voteV D)).size ≤ m
    rw [strN_size]
    have hl : (voteV D).length = (D.getD 0 .empty).size := by unfold voteV; simp
    rw [hl]
    cases D with
    | nil => exact Nat.zero_le _
    | cons a r => exact Nat.le_of_eq (h a List.mem_cons_self)
  · exact Nat.zero_le _
end Go.Proofs.YtddihmpiaemadaaGreatDoor
