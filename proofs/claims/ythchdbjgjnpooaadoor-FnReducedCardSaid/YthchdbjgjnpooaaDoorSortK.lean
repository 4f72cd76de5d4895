/- Rows of equations that are sorted in place. -/
import Derived.Test.YthchdbjgjnpooaaDoorLowI
import Derived.Shelf.SlSortCmp.WholeK
import Derived.Shelf.SlSortCmp.NoneTotal
namespace Go.Proofs.YthchdbjgjnpooaaDoor
set_option linter.unusedVariables false
set_option linter.unusedSimpArgs false
open Go.RowKit Go.Sort
/-- rows that have bits -/
abbrev RwS := {e : Rw // e.m ≠ 0 ∧ e.m < 18446744073709551616}
instance : Inhabited RwS := ⟨⟨⟨1, false⟩, by decide, by decide⟩⟩
def encR (x : RwS) : List Value := rc .i64 x.1
def cmpR (x y : RwS) : Int := (low x.1.m : Int) - (low y.1.m : Int)
theorem ltR (x y : RwS) : Go.Proofs.ltOf cmpR x y = decide (low x.1.m < low y.1.m) := by
  unfold Go.Proofs.ltOf cmpR
  rw [decide_eq_decide]; omega
theorem swoR : SWO (Go.Proofs.ltOf cmpR) where
  irrefl x := by rw [ltR]; simp
  trans x y z h1 h2 := by rw [ltR] at *; simp at *; omega
  ntrans x y z h1 h2 := by rw [ltR] at *; simp at *; omega
def rwL (d : Array RwS) : List Rw := d.toList.map (·.1)
theorem rwL_len (d : Array RwS) : (rwL d).length = d.size := by simp [rwL]
theorem rwL_at {d : Array RwS} {k : Nat} (h : k < d.size) : (rwL d)[k]? = some (d[k]!).1 := by
  unfold rwL
  rw [List.getElem?_map, Array.getElem?_toList, Array.getElem?_eq_getElem h, getElem!_pos d k h]; rfl
theorem encR_at {d : Array RwS} {j : Nat} : (rc .i64 (d[j / 2]!).1)[j % 2]? = some ((encR d[j / 2]!)[j % 2]!) := by
  unfold encR
  rcases Nat.mod_two_eq_zero_or_one j with h | h <;> rw [h] <;> rfl
theorem holds_rows {T : TypeId} {B g n c : Nat} {w : World} {d : Array RwS} (h : OwnL (rc .i64) 2 T B w (.slice (some ⟨g, 0, none⟩) n c) (rwL d)) : HoldsK encR 2 w g 0 d := by
  intro j hj
  have hj' : j < d.size * 2 := by simpa using hj
  have hd : j / 2 < d.size := by omega
  refine ⟨?_, by simpa using OwnL.frozen h⟩
  rw [get_flatK _ _ _ _ hj', Nat.zero_add]
  have := OwnL.at1 (rc_len .i64) h (rwL_at hd) encR_at
  rw [show j / 2 * 2 + j % 2 = j by omega] at this; exact this
theorem putCells_get {F c : Array Value} {j : Nat} (hj : j < F.size) (hc : j < c.size) : (putCells id 0 F c)[j]? = some F[j]! := by
  unfold putCells
  rw [Array.getElem?_mapIdx, Array.getElem?_eq_getElem hc]
  simp [hj]
theorem own_sorted {T : TypeId} {B g n c m : Nat} {w : World} {d d' : Array RwS} {os : Array Obj} (h : OwnL (rc .i64) 2 T B w (.slice (some ⟨g, 0, none⟩) n c) (rwL d)) (hs : d'.size = d.size) : OwnL (rc .i64) 2 T B (sortWorldK encR 2 w g 0 m d' os) (.slice (some ⟨g, 0, none⟩) n c) (rwL d') := by
  obtain ⟨A, c', e1, _⟩ := h.shape
  injection e1 with e2 e3 e4
  obtain ⟨h1, h2⟩ := h
  rcases h2 with ⟨hn, _⟩ | ⟨g', cap, cur, he, hB, hh, hnc, hm, hcs, htk⟩
  · cases hn
  injection he with e5 e6 e7
  injection e5 with e5
  injection e5 with e5 _ _
  subst e5 e7
  rw [rwL_len] at e6 hnc htk
  have hg : g < w.heap.size := (Array.getElem?_eq_some_iff.1 hh).1
  have hsz : (rwL d').length = d.size := by rw [rwL_len, hs]
  have hcur : (rwL d').length * 2 ≤ cur.size := by rw [hsz, hcs]; omega
  refine ⟨by rw [flat_len (rc_len .i64)], .inr ⟨g, c, putCells id 0 (flatK encR 2 d') cur, by rw [hsz, e6], hB, ?_, by rw [hsz]; exact hnc, hm, by simp [putCells, hcs], ?_⟩⟩
  · show (grow (putRow id (Go.Sort.ahead w m) g 0 (flatK encR 2 d')) os).heap[g]? = _
    rw [heap_grow_old _ _ (by simp; exact hg)]
    show ((Go.Sort.ahead w m).heap.modify g (onCells (putCells id 0 (flatK encR 2 d'))))[g]? = _
    rw [Array.getElem?_modify, if_pos rfl]
    show (w.heap[g]?).map _ = _
    rw [hh]; rfl
  · apply List.ext_getElem?
    intro j
    rw [List.getElem?_take]
    by_cases hj : j < (rwL d').length * 2
    · rw [if_pos hj, Array.getElem?_toList]
      have hj2 : j < d'.size * 2 := by rw [rwL_len] at hj; exact hj
      have hd : j / 2 < d'.size := by omega
      rw [putCells_get (by simpa using hj2) (by omega), get_flatK _ _ _ _ hj2]
      have := flat_get (rc_len .i64) (rwL_at hd) (j := j % 2) (by omega)
      rw [show j / 2 * 2 + j % 2 = j by omega] at this
      rw [this, encR_at]
    · rw [if_neg hj, List.getElem?_eq_none (by rw [flat_len (rc_len .i64)]; omega)]
theorem below_sorted {g m : Nat} {w : World} {d' : Array RwS} {os : Array Obj} (hg : g < w.heap.size) : Below g w (sortWorldK encR 2 w g 0 m d' os) := by
  refine ⟨rfl, rfl, rfl, ?_, fun k hk => ?_⟩
  · show _ ≤ (grow (putRow id (Go.Sort.ahead w m) g 0 (flatK encR 2 d')) os).heap.size
    simp
  · show (grow (putRow id (Go.Sort.ahead w m) g 0 (flatK encR 2 d')) os).heap[k]? = _
    rw [heap_grow_old _ _ (by simp; omega)]
    show ((Go.Sort.ahead w m).heap.modify g (onCells (putCells id 0 (flatK encR 2 d'))))[k]? = _
    rw [Array.getElem?_modify, if_neg (by omega)]; rfl
theorem Red.perm {a b : List Rw} (h : Red low a) (hp : b.Perm a) : Red low b :=
  ⟨fun e he => h.on e (hp.mem_iff.1 he), fun e he => h.lt e (hp.mem_iff.1 he), (hp.pairwise_iff (fun h => ⟨h.2, h.1⟩)).2 h.sep⟩
theorem Sol.perm {a b : List Rw} (hp : b.Perm a) (x : Nat → Bool) : Sol b x ↔ Sol a x := ⟨fun h e he => h e (hp.mem_iff.2 he), fun h e he => h e (hp.mem_iff.1 he)⟩
theorem ext_all (d : Array RwS) {n : Nat} (h : d.size = n) : d.extract 0 n = d := by subst h; simp
theorem sorted_red {d d' : Array RwS} (hp : PermIn 0 d.size d d') (hs : SortedIn (Go.Proofs.ltOf cmpR) 0 d.size d') (hr : Red low (rwL d)) : Red low (rwL d') ∧ Srt (rwL d') ∧ ∀ x, Sol (rwL d') x ↔ Sol (rwL d) x := by
  obtain ⟨h1, _, h2⟩ := hp
  rw [ext_all d' h1, ext_all d rfl] at h2
  have hP : (rwL d').Perm (rwL d) := h2.map _
  have hR := hr.perm hP
  refine ⟨hR, ?_, Sol.perm hP⟩
  have hsep := List.pairwise_iff_getElem.1 hR.sep
  refine List.pairwise_iff_getElem.2 fun i j hi hj hij => ?_
  have h3 := hsep i j hi hj hij
  have hi' : i < d'.size := by rw [rwL_len] at hi; exact hi
  have hj' : j < d'.size := by rw [rwL_len] at hj; exact hj
  have ei : (rwL d')[i] = (d'[i]!).1 := Option.some.inj ((List.getElem?_eq_getElem hi).symm.trans (rwL_at hi'))
  have ej : (rwL d')[j] = (d'[j]!).1 := Option.some.inj ((List.getElem?_eq_getElem hj).symm.trans (rwL_at hj'))
  have h4 := hs i j (Nat.zero_le _) hij (by omega)
  rw [ltR] at h4
  have h5 := of_decide_eq_false h4
  rw [ei, ej] at h3 ⊢
  have h6 := low_on _ (d'[j]!).2.1
  have h7 : low (d'[i]!).1.m ≠ low (d'[j]!).1.m := fun e => by rw [← e, h3.1] at h6; cases h6
  omega
/-- the rows of a solved list, as rows that have bits -/
theorem as_rows {a : List Rw} (h : Red low a) : ∃ d : Array RwS, rwL d = a := by
  induction a with
  | nil => exact ⟨#[], rfl⟩
  | cons e a ih =>
    obtain ⟨d, hd⟩ := ih h.tail
    have h0 : e.m ≠ 0 := by
      intro e0
      have := h.on e (by simp)
      rw [e0] at this; simp at this
    refine ⟨((⟨e, h0, h.lt e (by simp)⟩ : RwS) :: d.toList).toArray, ?_⟩
    unfold rwL at hd ⊢
    simp [hd]
end Go.Proofs.YthchdbjgjnpooaaDoor
