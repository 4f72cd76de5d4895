/- RestoreTwo: the law; the walk of the implementation. -/
import Derived.Test.YtkdadaocbfbndaaROneS
import Derived.Deep.RegionHeld3
namespace Go.Proofs.Ytkdadaocbfbndaa
set_option linter.unusedVariables false
open Go.RowKit
def rK (bl : List ByteArray) (L : List Int) (p q : ByteArray) : Nat := szK bl.length (ktF bl L [p, q])
def rX (bl : List ByteArray) (L : List Int) (p q : ByteArray) : List Nat := (parF (List.replicate (rK bl L p q) 0) (List.replicate (rK bl L p q) 0) 0 (leftG L bl)).1
def rY (bl : List ByteArray) (L : List Int) (p q : ByteArray) : List Nat := (parF (List.replicate (rK bl L p q) 0) (List.replicate (rK bl L p q) 0) 0 (leftG L bl)).2
def e1 (s : ByteArray) : Nat := if s.size = 0 then 1 else 0
def cntL (L : List Int) (p q : ByteArray) : Nat := L.length + e1 p + e1 q
def fstF (X Y : List Nat) (i j : Int) (p q : ByteArray) : List Nat := scN (invF (gpow (m255 i) ^^^ gpow (m255 j))) (xorN (xorN Y (bts q)) (scN (gpow (m255 j)) (xorN X (bts p))))
def outL (le : List ByteArray) (X Y : List Nat) (p q : ByteArray) : List Int → List ByteArray
  | [i] => le.set i.toNat (if p.size = 0 then strN (scN (invF (gpow (m255 i))) (xorN Y (bts q))) else strN (xorN X (bts p)))
  | [i, j] => (le.set i.toNat (strN (fstF X Y i j p q))).set j.toNat (strN (xorN (xorN X (bts p)) (fstF X Y i j p q)))
  | _ => le
theorem out_len (le : List ByteArray) (X Y : List Nat) (p q : ByteArray) (L : List Int) : (outL le X Y p q L).length = le.length := by
  unfold outL; split <;> simp
def r2E (bl : List ByteArray) (L : List Int) (p q : ByteArray) : List ByteArray × Int :=
  if risesB 0 ((bl.length : Int) - 1) L = false then ([], 2) else if rK bl L p q = 0 ∨ bl.length = 0 then ([], 1) else if 2 < cntL L p q then ([], 10) else (outL (leftG L bl) (rX bl L p q) (rY bl L p q) p q L, 0)
theorem r2_2 {bl : List ByteArray} {L : List Int} {p q : ByteArray} (h : risesB 0 ((bl.length : Int) - 1) L = false) : r2E bl L p q = ([], 2) := by unfold r2E; rw [if_pos h]
theorem r2_1 {bl : List ByteArray} {L : List Int} {p q : ByteArray} (h : risesB 0 ((bl.length : Int) - 1) L = true) (h1 : rK bl L p q = 0 ∨ bl.length = 0) : r2E bl L p q = ([], 1) := by unfold r2E; rw [if_neg (by rw [h]; decide), if_pos h1]
theorem r2_10 {bl : List ByteArray} {L : List Int} {p q : ByteArray} (h : risesB 0 ((bl.length : Int) - 1) L = true) (h1 : ¬ (rK bl L p q = 0 ∨ bl.length = 0)) (h2 : 2 < cntL L p q) : r2E bl L p q = ([], 10) := by unfold r2E; rw [if_neg (by rw [h]; decide), if_neg h1, if_pos h2]
theorem r2_0 {bl : List ByteArray} {L : List Int} {p q : ByteArray} (h : risesB 0 ((bl.length : Int) - 1) L = true) (h1 : ¬ (rK bl L p q = 0 ∨ bl.length = 0)) (h2 : ¬ 2 < cntL L p q) : r2E bl L p q = (outL (leftG L bl) (rX bl L p q) (rY bl L p q) p q L, 0) := by unfold r2E; rw [if_neg (by rw [h]; decide), if_neg h1, if_neg h2]
theorem r2_len (bl : List ByteArray) (L : List Int) (p q : ByteArray) : (r2E bl L p q).1.length ≤ bl.length := by
  unfold r2E
  split
  · simp
  · split
    · simp
    · split
      · simp
      · rw [out_len, left_len]; exact Nat.le_refl _
theorem rises_mem {lo hi : Int} {l : List Int} : ∀ {o : Option Int}, risesF lo hi o l = true → ∀ x ∈ l, lo ≤ x ∧ x ≤ hi := by
  induction l with
  | nil => intro o _ x hx; cases hx
  | cons a r ih =>
    intro o h x hx
    rw [risesF_cons, Bool.and_eq_true, Bool.and_eq_true] at h
    cases List.mem_cons.1 hx with
    | inl h' => subst h'; exact inB_yes h.1.1
    | inr h' => exact ih h.2 x h'
/-- the facts of a group whose lost blocks are to be restored -/
structure Grp (bl : List ByteArray) (L : List Int) (p q : ByteArray) : Prop where
  n1 : rK bl L p q ≠ 0
  n2 : rK bl L p q ≤ 64
  b2 : bl.length ≤ 128
  all : allS (rK bl L p q) (ktF bl L [p, q])
theorem grp {bl : List ByteArray} {L : List Int} {p q : ByteArray} (h : rK bl L p q ≠ 0) : Grp bl L p q := by
  obtain ⟨_, k2, k3, k4⟩ := (szK_pos h).1 (show szK bl.length (ktF bl L [p, q]) = rK bl L p q from rfl)
  exact ⟨h, k3, k4, k2⟩
theorem Grp.p {bl : List ByteArray} {L : List Int} {p q : ByteArray} (g : Grp bl L p q) (h : p.size ≠ 0) : p.size = rK bl L p q :=
  g.all p (List.mem_append_right _ (by rw [ne_c, if_neg (by rw [emp_no h]; decide)]; exact List.mem_cons_self))
theorem Grp.q {bl : List ByteArray} {L : List Int} {p q : ByteArray} (g : Grp bl L p q) (h : q.size ≠ 0) : q.size = rK bl L p q := by
  refine g.all q (List.mem_append_right _ ?_)
  have hq : q ∈ neF [q] := by rw [ne_c, if_neg (by rw [emp_no h]; decide)]; exact List.mem_cons_self
  rw [ne_c]
  split
  · exact hq
  · exact List.mem_cons_of_mem _ hq
theorem Grp.len {bl : List ByteArray} {L : List Int} {p q : ByteArray} (g : Grp bl L p q) : (rX bl L p q).length = rK bl L p q ∧ (rY bl L p q).length = rK bl L p q :=
  parF_len (p := List.replicate (rK bl L p q) 0) (q := List.replicate (rK bl L p q) 0) (k := 0) (l := leftG L bl) List.length_replicate List.length_replicate (left_sizes g.all)
theorem Grp.lt {bl : List ByteArray} {L : List Int} {p q : ByteArray} (_g : Grp bl L p q) : (∀ x ∈ rX bl L p q, x < 256) ∧ (∀ x ∈ rY bl L p q, x < 256) :=
  parF_lt (p := List.replicate (rK bl L p q) 0) (q := List.replicate (rK bl L p q) 0) (k := 0) (l := leftG L bl) zeros_lt zeros_lt
theorem Grp.par {bl : List ByteArray} {L : List Int} {p q : ByteArray} (g : Grp bl L p q) (v : Value) (w : World) (h : StrL w v (leftG L bl)) :
    Calls Try.prog 45 #[v, .int .i64 (rK bl L p q)] w fun e w' => e = .returned (.tuple #[.string (strN (rX bl L p q)), .string (strN (rY bl L p q))]) ∧ Below w.heap.size w w' :=
  parity_i (leftG L bl) (rK bl L p q) v w h (by rw [left_len]; have := g.b2; omega) (left_sizes g.all) (by have := g.n2; omega)
theorem xor_lt256 {a b : Nat} (ha : a < 256) (hb : b < 256) : a ^^^ b < 256 := Nat.xor_lt_two_pow (n := 8) ha hb
theorem scN_lt' {f : Nat} {a : List Nat} (ha : ∀ x ∈ a, x < 256) : ∀ x ∈ scN f a, x < 256 := scN_lt ha
/-- xorBytes of a string made of numbers -/
theorem xorN_i (a : List Nat) (b : ByteArray) (w : World) (ha : ∀ x ∈ a, x < 256) (hs : a.length ≤ b.size) (hb : b.size ≤ 2097152) :
    Calls Try.prog 41 #[.string (strN a), .string b] w fun e w' => e = .returned (.string (strN (xorN a (bts b)))) ∧ Below w.heap.size w w' := by
  have := xor_i (strN a) b w (by rw [strN_size]; exact hs) hb
  rw [bts_strN ha] at this
  exact this
theorem xorNN_i (a b : List Nat) (w : World) (ha : ∀ x ∈ a, x < 256) (hb : ∀ x ∈ b, x < 256) (hs : a.length ≤ b.length) (hl : b.length ≤ 2097152) :
    Calls Try.prog 41 #[.string (strN a), .string (strN b)] w fun e w' => e = .returned (.string (strN (xorN a b))) ∧ Below w.heap.size w w' := by
  have := xorN_i a (strN b) w ha (by rw [strN_size]; exact hs) (by rw [strN_size]; exact hl)
  rw [bts_strN hb] at this
  exact this
theorem unscN_i (s : List Nat) (a : Nat) (w : World) (hs : ∀ x ∈ s, x < 256) (hl : s.length ≤ 2097152) (ha : a < 256) :
    Calls Try.prog 54 #[.string (strN s), .int .i64 a] w fun e w' => e = .returned (.string (strN (scN (invF a) s))) ∧ Below w.heap.size w w' := by
  have := unscaled_i (strN s) a w (by rw [strN_size]; exact hl) ha
  rw [bts_strN hs] at this
  exact this
theorem scaN_i (s : List Nat) (x : Int) (w : World) (hs : ∀ x ∈ s, x < 256) (hl : s.length ≤ 2097152) (hx : -9223372036854775808 ≤ x ∧ x ≤ 9223372036854775807) :
    Calls Try.prog 42 #[.string (strN s), .int .i64 x] w fun e w' => e = .returned (.string (strN (scN (gpow (m255 x)) s))) ∧ Below w.heap.size w w' := by
  have := scaled_i (strN s) x w (by rw [strN_size]; exact hl) hx
  rw [bts_strN hs] at this
  exact this
theorem e1_yes {s : ByteArray} (h : s.toList.isEmpty = true) : e1 s = 1 := by unfold e1; rw [if_pos (emp_iff.1 h)]
theorem e1_no {s : ByteArray} (h : s.toList.isEmpty = false) : e1 s = 0 := by unfold e1; rw [if_neg (fun h0 => by rw [emp_yes h0] at h; cases h)]
end Go.Proofs.Ytkdadaocbfbndaa
