/- RestoreTwo: the law; the walk of the implementation. What the check of a source computes: the plain law. What a valid question of a certificate holds: the plain law. The first source of a sector: the plain law. -/
import Derived.Test.YtfcdienphillnaaGreatLr20
import Derived.Test.YtfcdienphillnaaGreatLr04
import Derived.Test.YtfcdienphillnaaGreatLr07
import Derived.Test.YtfcdienphillnaaGreatLr17
import Derived.Test.YtfcdienphillnaaGreatLr08
import Derived.Deep.RegionHeld3
namespace Go.Proofs.YtfcdienphillnaaGreat
set_option linter.unusedVariables false
set_option linter.unusedSimpArgs false
open Go.RowKit
def rK (bl : List ByteArray) (L : List Int) (p q : ByteArray) : Nat := szK bl.length (ktF bl L [p, q])
def rX (bl : List ByteArray) (L : List Int) (p q : ByteArray) : List Nat := (parF (List.replicate (rK bl L p q) 0) (List.replicate (rK bl L p q) 0) 0 (leftG L bl)).1
def rY (bl : List ByteArray) (L : List Int) (p q : ByteArray) : List Nat := (parF (List.replicate (rK bl L p q) 0) (List.replicate (rK bl L p q) 0) 0 (leftG L bl)).2
def e1 (s : ByteArray) : Nat := if s.size = 0 then 1 else 0
def cntL (L : List Int) (p q : ByteArray) : Nat := L.length + e1 p + e1 q
def fstF (X Y : List Nat) (i j : Int) (p q : ByteArray) : List Nat := scN (invF (gpow (m255 i) ^^^ gpow (m255 j))) (xorN (xorN Y (bts q)) (scN (gpow (m255 j)) (xorN X (bts p))))
def outL (le : List ByteArray) (X Y : List Nat) (p q : ByteArray) : List Int → List ByteArray
  | [i] => le.set i.toNat (if p.size = 0 then strN (scN (invF (gpow (m255 i))) (xorN Y (bts q))) else strN (xorN X (bts p)))
  | [i, j] => (le.set i.toNat (strN (fstF X Y i j p q))).set j.toNat (strN (xorN (xorN X (bts p)) (fstF X Y i j p q)))
  | _ => le
theorem out_len (le : List ByteArray) (X Y : List Nat) (p q : ByteArray) (L : List Int) : (outL le X Y p q L).length = le.length := by
  unfold outL; split <;> simp
def r2E (bl : List ByteArray) (L : List Int) (p q : ByteArray) : List ByteArray × Int :=
  if risesB 0 ((bl.length : Int) - 1) L = false then ([], 2) else if rK bl L p q = 0 ∨ bl.length = 0 then ([], 1) else if 2 < cntL L p q then ([], 10) else (outL (leftG L bl) (rX bl L p q) (rY bl L p q) p q L, 0)
theorem r2_2 {bl : List ByteArray} {L : List Int} {p q : ByteArray} (h : risesB 0 ((bl.length : Int) - 1) L = false) : r2E bl L p q = ([], 2) := by unfold r2E; rw [if_pos h]
theorem r2_1 {bl : List ByteArray} {L : List Int} {p q : ByteArray} (h : risesB 0 ((bl.length : Int) - 1) L = true) (h1 : rK bl L p q = 0 ∨ bl.length = 0) : r2E bl L p q = ([], 1) := by unfold r2E; rw [if_neg (by rw [h]; decide), if_pos h1]
theorem r2_10 {bl : List ByteArray} {L : List Int} {p q : ByteArray} (h : risesB 0 ((bl.length : Int) - 1) L = true) (h1 : ¬ (rK bl L p q = 0 ∨ bl.length = 0)) (h2 : 2 < cntL L p q) : r2E bl L p q = ([], 10) := by unfold r2E; rw [if_neg (by rw [h]; decide), if_neg h1, if_pos h2]
theorem r2_0 {bl : List ByteArray} {L : List Int} {p q : ByteArray} (h : risesB 0 ((bl.length : Int) - 1) L = true) (h1 : ¬ (rK bl L p q = 0 ∨ bl.length = 0)) (h2 : ¬ 2 < cntL L p q) : r2E bl L p q = (outL (leftG L bl) (rX bl L p q) (rY bl L p q) p q L, 0) := by unfold r2E; rw [if_neg (by rw [h]; decide), if_neg h1, if_neg h2]
theorem rises_mem {lo hi : Int} {l : List Int} : ∀ {o : Option Int}, risesF lo hi o l = true → ∀ x ∈ l, lo ≤ x ∧ x ≤ hi := by
  induction l with
  | nil => intro o _ x hx; cases hx
  | cons a r ih =>
    intro o h x hx
    rw [risesF_cons, Bool.and_eq_true, Bool.and_eq_true] at h
    cases List.mem_cons.1 hx with
    | inl h' => subst h'; exact inB_yes h.1.1
    | inr h' => exact ih h.2 x h'
/-- the facts of a group whose lost blocks are to be restored -/
structure Grp (bl : List ByteArray) (L : List Int) (p q : ByteArray) : Prop where
  n1 : rK bl L p q ≠ 0
  n2 : rK bl L p q ≤ 64
  b2 : bl.length ≤ 128
  all : allSP (rK bl L p q) (ktF bl L [p, q])
theorem grp {bl : List ByteArray} {L : List Int} {p q : ByteArray} (h : rK bl L p q ≠ 0) : Grp bl L p q := by
  obtain ⟨_, k2, k3, k4⟩ := (szK_pos h).1 (show szK bl.length (ktF bl L [p, q]) = rK bl L p q from rfl)
  exact ⟨h, k3, k4, k2⟩
theorem Grp.p {bl : List ByteArray} {L : List Int} {p q : ByteArray} (g : Grp bl L p q) (h : p.size ≠ 0) : p.size = rK bl L p q :=
  g.all p (List.mem_append_right _ (by rw [ne_c, if_neg (by rw [emp_noP h]; decide)]; exact List.mem_cons_self))
theorem Grp.q {bl : List ByteArray} {L : List Int} {p q : ByteArray} (g : Grp bl L p q) (h : q.size ≠ 0) : q.size = rK bl L p q := by
  refine g.all q (List.mem_append_right _ ?_)
  have hq : q ∈ neF [q] := by rw [ne_c, if_neg (by rw [emp_noP h]; decide)]; exact List.mem_cons_self
  rw [ne_c]
  split
  · exact hq
  · exact List.mem_cons_of_mem _ hq
theorem Grp.len {bl : List ByteArray} {L : List Int} {p q : ByteArray} (g : Grp bl L p q) : (rX bl L p q).length = rK bl L p q ∧ (rY bl L p q).length = rK bl L p q :=
  parF_len (p := List.replicate (rK bl L p q) 0) (q := List.replicate (rK bl L p q) 0) (k := 0) (l := leftG L bl) List.length_replicate List.length_replicate (left_sizes g.all)
theorem Grp.lt {bl : List ByteArray} {L : List Int} {p q : ByteArray} (_g : Grp bl L p q) : (∀ x ∈ rX bl L p q, x < 256) ∧ (∀ x ∈ rY bl L p q, x < 256) :=
  parF_lt (p := List.replicate (rK bl L p q) 0) (q := List.replicate (rK bl L p q) 0) (k := 0) (l := leftG L bl) zeros_lt zeros_lt
theorem Grp.par {bl : List ByteArray} {L : List Int} {p q : ByteArray} (g : Grp bl L p q) (v : Value) (w : World) (h : StrL w v (leftG L bl)) :
    Calls Tryz.prog 147 #[v, .int .i64 (rK bl L p q)] w fun e w' => e = .returned (.tuple #[.string (strN (rX bl L p q)), .string (strN (rY bl L p q))]) ∧ Below w.heap.size w w' :=
  parity_i (leftG L bl) (rK bl L p q) v w h (by rw [left_len]; have := g.b2; omega) (left_sizes g.all) (by have := g.n2; omega)
theorem xor_lt256 {a b : Nat} (ha : a < 256) (hb : b < 256) : a ^^^ b < 256 := Nat.xor_lt_two_pow (n := 8) ha hb
/-- xorBytes of a string made of numbers -/
theorem xorN_i (a : List Nat) (b : ByteArray) (w : World) (ha : ∀ x ∈ a, x < 256) (hs : a.length ≤ b.size) (hb : b.size ≤ 2097152) :
    Calls Tryz.prog 148 #[.string (strN a), .string b] w fun e w' => e = .returned (.string (strN (xorN a (bts b)))) ∧ Below w.heap.size w w' := by
  have := xor_i (strN a) b w (by rw [strN_size]; exact hs) hb
  rw [bts_strN ha] at this
  exact this
theorem xorNN_i (a b : List Nat) (w : World) (ha : ∀ x ∈ a, x < 256) (hb : ∀ x ∈ b, x < 256) (hs : a.length ≤ b.length) (hl : b.length ≤ 2097152) :
    Calls Tryz.prog 148 #[.string (strN a), .string (strN b)] w fun e w' => e = .returned (.string (strN (xorN a b))) ∧ Below w.heap.size w w' := by
  have := xorN_i a (strN b) w ha (by rw [strN_size]; exact hs) (by rw [strN_size]; exact hl)
  rw [bts_strN hb] at this
  exact this
theorem unscN_i (s : List Nat) (a : Nat) (w : World) (hs : ∀ x ∈ s, x < 256) (hl : s.length ≤ 2097152) (ha : a < 256) :
    Calls Tryz.prog 149 #[.string (strN s), .int .i64 a] w fun e w' => e = .returned (.string (strN (scN (invF a) s))) ∧ Below w.heap.size w w' := by
  have := unscaled_i (strN s) a w (by rw [strN_size]; exact hl) ha
  rw [bts_strN hs] at this
  exact this
theorem scaN_i (s : List Nat) (x : Int) (w : World) (hs : ∀ x ∈ s, x < 256) (hl : s.length ≤ 2097152) (hx : -9223372036854775808 ≤ x ∧ x ≤ 9223372036854775807) :
    Calls Tryz.prog 151 #[.string (strN s), .int .i64 x] w fun e w' => e = .returned (.string (strN (scN (gpow (m255 x)) s))) ∧ Below w.heap.size w w' := by
  have := scaled_i (strN s) x w (by rw [strN_size]; exact hl) hx
  rw [bts_strN hs] at this
  exact this
theorem e1_yes {s : ByteArray} (h : s.toList.isEmpty = true) : e1 s = 1 := by unfold e1; rw [if_pos (emp_iff.1 h)]
theorem e1_no {s : ByteArray} (h : s.toList.isEmpty = false) : e1 s = 0 := by unfold e1; rw [if_neg (fun h0 => by rw [emp_yesP h0] at h; cases h)]
end Go.Proofs.YtfcdienphillnaaGreat
namespace Go.Proofs.YtfcdienphillnaaGreat
set_option linter.unusedVariables false
set_option linter.unusedSimpArgs false
open Go.RowKit
/-- bytes fit a sector's check value -/
def fitB (cr : List Int) (k : Nat) (s : ByteArray) : Bool := cr.getD k 0 == -1 || (crcB s : Int) == cr.getD k 0
/-- the readings of a sector -/
def rdL : List Sec → List ByteArray
  | [] => []
  | s :: r => if s.state == 3 then rdL r else s.data :: rdL r
def rdF (k : Nat) (ds : List Dsc) : List ByteArray := rdL (ds.map fun d => d.secs.getD k ⟨.empty, 0⟩)
theorem rdL_len (l : List Sec) : (rdL l).length ≤ l.length := by
  induction l with
  | nil => exact Nat.le_refl _
  | cons a r ih =>
    unfold rdL
    split
    · exact Nat.le_trans ih (Nat.le_succ _)
    · simpa using ih
theorem rdF_len (k : Nat) (ds : List Dsc) : (rdF k ds).length ≤ ds.length := by
  have := rdL_len (ds.map fun d => d.secs.getD k ⟨.empty, 0⟩)
  unfold rdF; simpa using this
/-- the places at which readings differ -/
def diB (D : List ByteArray) (i : Nat) : Bool := D.any fun s => s.data.toList.getD i 0 != (D.getD 0 .empty).data.toList.getD i 0
def difF (D : List ByteArray) : List Int := ((List.range (voteN D)).filter (diB D)).map fun i : Nat => (i : Int)
/-- the bytes that a check value yields -/
def slvE (e : Evd) (k : Nat) : ByteArray × Bool :=
  if e.cr.getD k 0 < 0 ∨ rdF k e.ds = [] then (.empty, false)
  else ((sbE ((rdF k e.ds).getD 0 .empty) (difF (rdF k e.ds)) (e.cr.getD k 0)).1, (sbE ((rdF k e.ds).getD 0 .empty) (difF (rdF k e.ds)) (e.cr.getD k 0)).2 == 0)
/-- the sectors of a track that no source or parity has -/
def losB (l : List Src) (o : Nat) (j : Nat) : Bool := kinN ((o + j : Nat) : Int) l == 4 || kinN ((o + j : Nat) : Int) l == 0
def losF (l : List Src) (o per : Nat) : List Int := ((List.range per).filter (losB l o)).map fun i : Nat => (i : Int)
def blkF (d : Dsc) (o per : Nat) : List ByteArray := ((d.secs.drop o).take per).map Sec.data
/-- the sectors of a track with parity as their source come from it -/
def parC (e : Evd) (d : Dsc) (l : List Src) (t : Nat) : Bool :=
  (r2E (blkF d (t * d.per.toNat) d.per.toNat) (losF l (t * d.per.toNat) d.per.toNat) (e.p.getD t .empty) (e.q.getD t .empty)).2 == 0 &&
  (List.range d.per.toNat).all fun j => !(kinN ((t * d.per.toNat + j : Nat) : Int) l == 4) ||
    ((r2E (blkF d (t * d.per.toNat) d.per.toNat) (losF l (t * d.per.toNat) d.per.toNat) (e.p.getD t .empty) (e.q.getD t .empty)).1.getD j .empty).toList == ((blkF d (t * d.per.toNat) d.per.toNat).getD j .empty).toList
/-- the data of a sector come from their source -/
def srcC (e : Evd) (d : Dsc) (l : List Src) (s : Src) : Bool :=
  match d.secs[s.sector.toNat]? with
  | none => false
  | some x => x.state == 1 && (fitB e.cr s.sector.toNat x.data &&
      (if s.kind = 1 then (match e.ds[s.dump.toNat]? with
          | none => false
          | some y => (match y.secs[s.sector.toNat]? with
            | none => false
            | some z => z.data.toList == x.data.toList && z.state == 1))
        else if s.kind = 2 then (voteE (rdF s.sector.toNat e.ds)).2 && (voteE (rdF s.sector.toNat e.ds)).1.toList == x.data.toList
        else if s.kind = 3 then (slvE e s.sector.toNat).2 && (slvE e s.sector.toNat).1.toList == x.data.toList
        else parC e d l (s.sector.toNat / d.per.toNat)))
def askB (e : Evd) (d : Dsc) (l : List Src) : Bool := evOk e && (discOk d && (certOk l && sameG d (e.ds.headD default)))
def chkS (e : Evd) (d : Dsc) (l : List Src) (k : Int) : Bool := askB e d l && (inB k 0 ((l.length : Int) - 1) && (match l[k.toNat]? with
  | none => false
  | some s => srcC e d l s))
theorem stopQ {p : Prop} (h : True → p) : p := h trivial
theorem cell_alloc2 (w : World) (o : Obj) (u : Value) (t : TypeId) : ((w.alloc o).alloc (.cells #[u] t)).cell? ⟨w.heap.size + 1, 0, none⟩ = some u := by
  have h : (w.alloc o).heap.size = w.heap.size + 1 := by simp
  have := World.cell?_alloc_new (w.alloc o) #[u] t 0
  rw [h] at this
  exact this
theorem cell_alloc3 (w : World) (o o' : Obj) (u : Value) (t : TypeId) : (((w.alloc o).alloc o').alloc (.cells #[u] t)).cell? ⟨w.heap.size + 1 + 1, 0, none⟩ = some u := by
  have h : ((w.alloc o).alloc o').heap.size = w.heap.size + 1 + 1 := by simp
  have := World.cell?_alloc_new ((w.alloc o).alloc o') #[u] t 0
  rw [h] at this
  exact this
theorem below_drewNQ {B : Nat} {a w : World} (h : Below B a w) (n : Nat) : Below B a (w.drewN n) := h.trans ⟨rfl, rfl, rfl, Nat.le_refl _, fun _ _ => rfl⟩
theorem cell_allocD (w : World) (n : Nat) (u : Value) (t : TypeId) : ((w.drewN n).alloc (.cells #[u] t)).cell? ⟨w.heap.size, 0, none⟩ = some u := World.cell?_alloc_new (w.drewN n) #[u] t 0
/-! filters over a range -/
def fltN (P : Nat → Bool) (n : Nat) : List Int := ((List.range n).filter P).map fun i : Nat => (i : Int)
theorem flt_yes {P : Nat → Bool} {n : Nat} {acc : List Int} (H : Hid (acc = fltN P n)) (h : P n = true) : Hid (acc ++ [(n : Int)] = fltN P (n + 1)) :=
  Lib.hid (by rw [H.out]; unfold fltN; rw [List.range_succ, List.filter_append, List.filter_cons_of_pos h, List.map_append]; rfl)
theorem flt_no {P : Nat → Bool} {n : Nat} {acc : List Int} (H : Hid (acc = fltN P n)) (h : P n = false) : Hid (acc = fltN P (n + 1)) :=
  Lib.hid (by rw [H.out]; unfold fltN; rw [List.range_succ, List.filter_append, List.filter_cons_of_neg (by rw [h]; decide), List.filter_nil, List.append_nil])
theorem flt_len (P : Nat → Bool) (n : Nat) : (fltN P n).length ≤ n := by
  unfold fltN; rw [List.length_map]; exact Nat.le_trans (List.length_filter_le _ _) (by simp)
theorem flt_mem {P : Nat → Bool} {n : Nat} {x : Int} (h : x ∈ fltN P n) : ∃ k : Nat, x = k ∧ k < n ∧ P k = true := by
  unfold fltN at h
  obtain ⟨k, hk, rfl⟩ := List.mem_map.1 h
  have := List.mem_filter.1 hk
  exact ⟨k, rfl, List.mem_range.1 this.1, this.2⟩
theorem flt_has {P : Nat → Bool} {n k : Nat} (hk : k < n) (h : P k = true) : (k : Int) ∈ fltN P n := by
  unfold fltN
  exact List.mem_map.2 ⟨k, List.mem_filter.2 ⟨List.mem_range.2 hk, h⟩, rfl⟩
theorem dif_flt (D : List ByteArray) : difF D = fltN (diB D) (voteN D) := rfl
theorem byte_at {s : ByteArray} {i : Nat} (hi : i < s.size) : s.data.toList.getD i 0 = s[i] := by
  rw [List.getD_eq_getElem?_getD, List.getElem?_eq_getElem (by simpa using hi)]; rfl
theorem di_yes {D : List ByteArray} {s0 s : ByteArray} {k i : Nat} (h0 : D[0]? = some s0) (hs : D[k]? = some s) (hi0 : i < s0.size) (hi : i < s.size) (h : ((s[i].toNat : Int) != (s0[i].toNat : Int)) = true) : diB D i = true := by
  unfold diB
  refine List.any_eq_true.2 ⟨s, List.mem_of_getElem? hs, ?_⟩
  rw [show D.getD 0 .empty = s0 by rw [List.getD_eq_getElem?_getD, h0]; rfl, byte_at hi, byte_at hi0]
  rw [bne_iff_ne] at h ⊢
  intro e; rw [e] at h; exact h rfl
theorem di_no {D : List ByteArray} {s0 : ByteArray} {i : Nat} (h0 : D[0]? = some s0) (hi0 : i < s0.size) (h : ∀ (k : Nat) (s : ByteArray), D[k]? = some s → ∃ hi : i < s.size, ((s[i].toNat : Int) != (s0[i].toNat : Int)) = false) : diB D i = false := by
  unfold diB
  rw [← Bool.not_eq_true, List.any_eq_true]
  rintro ⟨s, hs, hb⟩
  obtain ⟨k, hk⟩ := List.getElem?_of_mem hs
  obtain ⟨hi, e⟩ := h k s hk
  rw [show D.getD 0 .empty = s0 by rw [List.getD_eq_getElem?_getD, h0]; rfl, byte_at hi, byte_at hi0] at hb
  rw [bne_iff_ne] at hb
  rw [bne_eq_false_iff_eq] at e
  exact hb (UInt8.toNat_inj.1 (by omega))
/-- the readings have one size -/
theorem rd_size {n : Nat} {k : Nat} {ds : List Dsc} (h : ∀ d ∈ ds, ∀ s ∈ d.secs, s.data.size = n) (hk : ∀ d ∈ ds, k < d.secs.length) : ∀ s ∈ rdF k ds, s.size = n := by
  have hl : ∀ l : List Sec, (∀ s ∈ l, s.data.size = n) → ∀ s ∈ rdL l, s.size = n := by
    intro l
    induction l with
    | nil => intro _ s hs; cases hs
    | cons a r ih =>
      intro h s hs
      unfold rdL at hs
      split at hs
      · exact ih (fun s h' => h s (List.mem_cons_of_mem _ h')) s hs
      · rcases List.mem_cons.1 hs with rfl | hs
        · exact h a List.mem_cons_self
        · exact ih (fun s h' => h s (List.mem_cons_of_mem _ h')) s hs
  refine hl _ fun s hs => ?_
  obtain ⟨d, hd, rfl⟩ := List.mem_map.1 hs
  have := hk d hd
  rw [List.getD_eq_getElem?_getD, List.getElem?_eq_getElem this]
  exact h d hd _ (List.getElem_mem _)
theorem slv_no {e : Evd} {k : Nat} (h : e.cr.getD k 0 < 0 ∨ rdF k e.ds = []) : slvE e k = (.empty, false) := by unfold slvE; rw [if_pos h]
theorem slv_yes {e : Evd} {k : Nat} {c : Int} {s0 : ByteArray} (hc : e.cr[k]? = some c) (h0 : (rdF k e.ds)[0]? = some s0) (h : ¬ c < 0) : slvE e k = ((sbE s0 (fltN (diB (rdF k e.ds)) s0.size) c).1, (sbE s0 (fltN (diB (rdF k e.ds)) s0.size) c).2 == 0) := by
  unfold slvE
  rw [show e.cr.getD k 0 = c by rw [List.getD_eq_getElem?_getD, hc]; rfl, if_neg (by rintro (h' | h'); exact h h'; rw [h'] at h0; cases h0), dif_flt, show voteN (rdF k e.ds) = s0.size by unfold voteN; rw [List.getD_eq_getElem?_getD, h0]; rfl, show (rdF k e.ds).getD 0 .empty = s0 by rw [List.getD_eq_getElem?_getD, h0]; rfl]
theorem blk_next {d : Dsc} {o j : Nat} {s : Sec} {acc : List ByteArray} (hs : d.secs[o + j]? = some s) (H : Hid (acc = blkF d o j)) : Hid (acc ++ [s.data] = blkF d o (j + 1)) := by
  refine Lib.hid ?_
  rw [H.out]
  unfold blkF
  obtain ⟨hk, e⟩ := List.getElem?_eq_some_iff.1 hs
  rw [List.take_succ_eq_append_getElem (by rw [List.length_drop]; omega), List.map_append, List.getElem_drop, e]; rfl
theorem r2_out {bl : List ByteArray} {L : List Int} {p q : ByteArray} (h : (r2E bl L p q).2 = 0) : (r2E bl L p q).1.length = bl.length := by
  unfold r2E at h ⊢
  split
  · rename_i h1; rw [if_pos h1] at h; cases h
  · rename_i h1
    rw [if_neg h1] at h
    split
    · rename_i h2; rw [if_pos h2] at h; cases h
    · rename_i h2
      rw [if_neg h2] at h
      split
      · rename_i h3; rw [if_pos h3] at h; cases h
      · rw [out_len, left_len]
def r2T (e : Evd) (d : Dsc) (l : List Src) (t : Nat) : List ByteArray × Int := r2E (blkF d (t * d.per.toNat) d.per.toNat) (losF l (t * d.per.toNat) d.per.toNat) (e.p.getD t .empty) (e.q.getD t .empty)
def pcB (e : Evd) (d : Dsc) (l : List Src) (t j : Nat) : Bool := !(kinN ((t * d.per.toNat + j : Nat) : Int) l == 4) || ((r2T e d l t).1.getD j .empty).toList == ((blkF d (t * d.per.toNat) d.per.toNat).getD j .empty).toList
end Go.Proofs.YtfcdienphillnaaGreat
namespace Go.Proofs.YtfcdienphillnaaGreat
set_option linter.unusedVariables false
set_option linter.unusedSimpArgs false
open Go.RowKit
theorem sameG_iff {a b : Dsc} : sameG a b = true ↔ a.cyl = b.cyl ∧ a.heads = b.heads ∧ a.per = b.per ∧ a.size = b.size := by
  unfold sameG
  simp only [Bool.and_eq_true, beq_iff_eq]
  exact ⟨fun ⟨⟨⟨a, b⟩, c⟩, d⟩ => ⟨a, b, c, d⟩, fun ⟨a, b, c, d⟩ => ⟨⟨⟨a, b⟩, c⟩, d⟩⟩
/-- valid evidence -/
structure EvF (e : Evd) (z : Dsc) (P m T : Nat) : Prop where
  z0 : e.ds[0]? = some z
  zok : discOk z = true
  per : z.per = P
  siz : m = szN z.size
  p1 : 1 ≤ P
  p8 : P ≤ 8
  secs : z.secs.length = T * P
  tt : (T : Int) = z.cyl * z.heads
  t1 : 1 ≤ T
  t16 : T ≤ 16
  d1 : 1 ≤ e.ds.length
  d5 : e.ds.length ≤ 5
  dok : ∀ d ∈ e.ds, discOk d = true ∧ sameG d z = true
  dss : ∀ d ∈ e.ds, d.secs.length = T * P
  crl : e.cr.length = T * P
  pl : e.p.length = T
  ql : e.q.length = T
  ps : ∀ s ∈ e.p, s.size = 0 ∨ s.size = m
  qs : ∀ s ∈ e.q, s.size = 0 ∨ s.size = m
  dm : ∀ d ∈ e.ds, ∀ s ∈ d.secs, s.data.size = m
  m1 : 1 ≤ m
  m2 : m ≤ 32
  cr : ∀ u ∈ e.cr, inB u (-1) 65535 = true
theorem disc_secs {d : Dsc} (h : discOk d = true) : (d.secs.length : Int) = d.cyl * d.heads * d.per ∧ ∀ s ∈ d.secs, secOk s (szN d.size) = true := by
  unfold discOk at h
  simp only [Bool.and_eq_true, List.all_eq_true, beq_iff_eq] at h
  exact ⟨h.2.1, h.2.2⟩
theorem sec_size {s : Sec} {n : Nat} (h : secOk s n = true) : s.data.size = n ∧ 1 ≤ s.state ∧ s.state ≤ 4 := by
  unfold secOk at h
  simp only [Bool.and_eq_true, decide_eq_true_eq] at h
  have := inB_yes h.1.1
  exact ⟨h.1.2, this.1, this.2⟩
theorem par_parts {z : Dsc} {l : List ByteArray} (h : parOk z l = true) : (l.length : Int) = z.cyl * z.heads ∧ ∀ s ∈ l, s.size = 0 ∨ s.size = szN z.size := by
  unfold parOk at h
  simp only [Bool.and_eq_true, List.all_eq_true, beq_iff_eq] at h
  refine ⟨h.1, fun s hs => ?_⟩
  have := h.2 s hs
  unfold parB at this
  rw [Bool.or_eq_true] at this
  exact this.imp of_decide_eq_true of_decide_eq_true
theorem ev_f {e : Evd} (h : evOk e = true) : ∃ z P m T, EvF e z P m T := by
  have hd : dumpsOk e.ds = true := by unfold evOk at h; rw [Bool.and_eq_true] at h; exact h.1
  obtain ⟨z, hz⟩ := dps_first hd
  have hev := ev_at hd hz
  rw [h] at hev
  have hzok := dps_ok hd hz
  obtain ⟨g1, g2, g3, g4⟩ := geo_parts (disc_geo hzok)
  obtain ⟨m1, m2⟩ := prod_bd g1 g2 g3
  obtain ⟨s1, s2⟩ := disc_secs hzok
  obtain ⟨P, hP⟩ : ∃ P : Nat, z.per = P := ⟨z.per.toNat, by omega⟩
  obtain ⟨T, hT⟩ : ∃ T : Nat, (T : Int) = z.cyl * z.heads := ⟨(z.cyl * z.heads).toNat, by omega⟩
  have hTP : ∀ n : Nat, (n : Int) = z.cyl * z.heads * z.per → n = T * P := fun n hn => by
    rw [← hT, hP] at hn; exact_mod_cast hn
  have h5 : e.ds.length ≤ 5 := by
    by_cases h5 : 5 < e.ds.length
    · rw [du_long h5] at hd; cases hd
    · omega
  have hall := du_at hz h5
  rw [hd] at hall
  have hdk : ∀ d ∈ e.ds, discOk d = true ∧ sameG d z = true := fun d hm => by
    have := List.all_eq_true.1 hall.symm d hm
    rwa [Bool.and_eq_true] at this
  unfold evR at hev
  have hev := hev.symm
  simp only [Bool.and_eq_true, List.all_eq_true, beq_iff_eq] at hev
  obtain ⟨e1, e2, e3, e4⟩ := hev
  obtain ⟨p1, p2⟩ := par_parts e3
  obtain ⟨q1, q2⟩ := par_parts e4
  have hsz := szN_le g4
  refine ⟨z, P, szN z.size, T, hz, hzok, hP, rfl, by omega, by omega, hTP _ s1, hT, by omega, by omega, (List.getElem?_eq_some_iff.1 hz).1, h5, hdk, fun d hm => ?_, e1.trans (hTP _ s1), by omega, by omega, p2, q2, fun d hm s hs => ?_, by omega, by omega, e2⟩
  · obtain ⟨a, b⟩ := hdk d hm
    obtain ⟨c1, c2, c3, c4⟩ := sameG_iff.1 b
    have := (disc_secs a).1
    rw [c1, c2, c3] at this
    exact hTP _ this
  · obtain ⟨a, b⟩ := hdk d hm
    obtain ⟨c1, c2, c3, c4⟩ := sameG_iff.1 b
    have := (sec_size ((disc_secs a).2 s hs)).1
    rw [c4] at this
    exact this
/-- a valid question -/
structure AskF (e : Evd) (d : Dsc) (l : List Src) (P m T : Nat) : Prop where
  ev : ∃ z, EvF e z P m T
  per : d.per = P
  secs : d.secs.length = T * P
  sm : ∀ s ∈ d.secs, s.data.size = m
  cert : certOk l = true
section
variable {e : Evd} {d : Dsc} {l : List Src} {s : Src} {x : Sec}
end
end Go.Proofs.YtfcdienphillnaaGreat
namespace Go.Proofs.YtfcdienphillnaaGreat
set_option linter.unusedVariables false
set_option linter.unusedSimpArgs false
open Go.RowKit
/-- the first dump whose good sector fits -/
def firD (cr : List Int) (k : Nat) : Nat → List Dsc → Option (Nat × ByteArray)
  | _, [] => none
  | i, d :: r => if ((d.secs.getD k ⟨.empty, 0⟩).state == 1 && fitB cr k (d.secs.getD k ⟨.empty, 0⟩).data) = true then some (i, (d.secs.getD k ⟨.empty, 0⟩).data) else firD cr k (i + 1) r
def firE (e : Evd) (k : Nat) : Src × ByteArray × Bool := match firD e.cr k 0 e.ds with
  | some (i, s) => (⟨1, (k : Int), (i : Int)⟩, s, true)
  | none => if ((voteE (rdF k e.ds)).2 && fitB e.cr k (voteE (rdF k e.ds)).1) = true then (⟨2, (k : Int), 0⟩, (voteE (rdF k e.ds)).1, true) else (⟨3, (k : Int), 0⟩, (slvE e k).1, (slvE e k).2)
theorem fid_yes {cr : List Int} {k i : Nat} {ds : List Dsc} {d : Dsc} {s : Sec} (hd : ds[i]? = some d) (hs : d.secs[k]? = some s) (H : Hid (firD cr k 0 ds = firD cr k i (ds.drop i))) (h : (s.state == 1 && fitB cr k s.data) = true) : firD cr k 0 ds = some (i, s.data) := by
  obtain ⟨hk, rfl⟩ := List.getElem?_eq_some_iff.1 hd
  have e : (ds[i]).secs.getD k ⟨.empty, 0⟩ = s := by rw [List.getD_eq_getElem?_getD, hs]; rfl
  rw [H.out, List.drop_eq_getElem_cons hk, firD, e, if_pos h]
theorem fid_no {cr : List Int} {k i : Nat} {ds : List Dsc} {d : Dsc} {s : Sec} (hd : ds[i]? = some d) (hs : d.secs[k]? = some s) (H : Hid (firD cr k 0 ds = firD cr k i (ds.drop i))) (h : (s.state == 1 && fitB cr k s.data) = false) : Hid (firD cr k 0 ds = firD cr k (i + 1) (ds.drop (i + 1))) := by
  obtain ⟨hk, rfl⟩ := List.getElem?_eq_some_iff.1 hd
  have e : (ds[i]).secs.getD k ⟨.empty, 0⟩ = s := by rw [List.getD_eq_getElem?_getD, hs]; rfl
  exact Lib.hid (by rw [H.out, List.drop_eq_getElem_cons hk, firD, e, if_neg (by rw [h]; decide)])
theorem fid_end {cr : List Int} {k i : Nat} {ds : List Dsc} (hk : ds.length ≤ i) (H : Hid (firD cr k 0 ds = firD cr k i (ds.drop i))) : firD cr k 0 ds = none := by
  rw [H.out, List.drop_of_length_le hk]; rfl
theorem fir_dump {e : Evd} {k i : Nat} {s : ByteArray} (h : firD e.cr k 0 e.ds = some (i, s)) : firE e k = (⟨1, (k : Int), (i : Int)⟩, s, true) := by unfold firE; rw [h]
theorem fir_vote {e : Evd} {k : Nat} (h : firD e.cr k 0 e.ds = none) (h2 : ((voteE (rdF k e.ds)).2 && fitB e.cr k (voteE (rdF k e.ds)).1) = true) : firE e k = (⟨2, (k : Int), 0⟩, (voteE (rdF k e.ds)).1, true) := by unfold firE; rw [h]; exact if_pos h2
theorem fir_solve {e : Evd} {k : Nat} (h : firD e.cr k 0 e.ds = none) (h2 : ((voteE (rdF k e.ds)).2 && fitB e.cr k (voteE (rdF k e.ds)).1) = false) : firE e k = (⟨3, (k : Int), 0⟩, (slvE e k).1, (slvE e k).2) := by unfold firE; rw [h]; exact if_neg (by rw [h2]; decide)
theorem vote_size {D : List ByteArray} {m : Nat} (h : ∀ s ∈ D, s.size = m) : (voteE D).1.size ≤ m := by
  unfold voteE
  split
  · rename_i hv
    show (strN (voteV D)).size ≤ m
    rw [strN_size]
    have hl : (voteV D).length = (D.getD 0 .empty).size := by unfold voteV; simp
    rw [hl]
    cases D with
    | nil => exact Nat.zero_le _
    | cons a r => exact Nat.le_of_eq (h a List.mem_cons_self)
  · exact Nat.zero_le _
end Go.Proofs.YtfcdienphillnaaGreat
