/- Rows of equations in memory: their cells, stores into them, arithmetic of 64 bits. rises, impl and spec: the walks. rises: bounds of the numbers. The rows of the equations, made bit by bit. Plain laws. CrcEffect and FindFlip, impl and spec: the walks. FindFlip, impl and spec: the walks. l00Rises: the walk. Whether data, unknown bits and a check value are as described; data whose unknown bits are cleared, impl and spec: the walks. -/
import Derived.Test.YtddihmpiaemadaaGreatDoorFc06
import Derived.Test.YtddihmpiaemadaaGreatDoorFc08
import Derived.Test.YtddihmpiaemadaaGreatDoorFc05
import Derived.Test.YtddihmpiaemadaaGreatDoorFc02
import Derived.Maps.AppendAt
namespace Go.Proofs.YtddihmpiaemadaaGreatDoor
set_option linter.unusedVariables false
set_option linter.unusedSimpArgs false
open Go.RowKit

section
variable {α : Type} {f : α → List Value} {z : Nat} {e : TypeId} {B : Nat} {w : World}
end
def bi (b : Bool) : Int := if b then 1 else 0
theorem bi_t : bi true = 1 := rfl
theorem bi_f : bi false = 0 := rfl
def rc (κ : IntKind) (e : Rw) : List Value := [.int .u64 e.m, .int κ (bi e.r)]
theorem rc_len (κ : IntKind) (e : Rw) : (rc κ e).length = 2 := rfl
theorem rc_one (κ : IntKind) (e : Rw) : ∀ u ∈ rc κ e, u.oneCell' = true := by simp [rc, Value.oneCell']
/-- a slice that reads as rows -/
def RowsAt (κ : IntKind) (w : World) (v : Value) (l : List Rw) : Prop := ∃ A c, v = .slice A l.length c ∧ (l = [] ∨ ∃ g, A = some ⟨g, 0, none⟩ ∧ g < w.heap.size ∧ ∀ (k : Nat) (e : Rw), l[k]? = some e → w.cell? ⟨g, k * 2, none⟩ = some (.int .u64 e.m) ∧ w.cell? ⟨g, k * 2 + 1, none⟩ = some (.int κ (bi e.r)))
theorem RowsAt.own {κ : IntKind} {e : TypeId} {B : Nat} {w : World} {v : Value} {l : List Rw} (h : OwnL (rc κ) 2 e B w v l) : RowsAt κ w v l := by
  obtain ⟨A, c, rfl, hA⟩ := h.shape
  refine ⟨A, c, rfl, ?_⟩
  rcases hA with hA | ⟨g, rfl, _, hg⟩
  · exact .inl hA
  · refine .inr ⟨g, rfl, hg, fun k e hk => ⟨?_, ?_⟩⟩
    · have := OwnL.cell (rc_len κ) h hk (j := 0) rfl
      simpa using this
    · have := OwnL.cell (rc_len κ) h hk (j := 1) rfl
      simpa using this
theorem RowsAt.below {κ : IntKind} {w w' : World} {v : Value} {l : List Rw} (h : RowsAt κ w v l) (hb : Below w.heap.size w w') : RowsAt κ w' v l := by
  obtain ⟨A, c, rfl, hA⟩ := h
  refine ⟨A, c, rfl, ?_⟩
  rcases hA with hA | ⟨g, rfl, hg, hc⟩
  · exact .inl hA
  · exact .inr ⟨g, rfl, Nat.lt_of_lt_of_le hg hb.size, fun k e hk => by
      obtain ⟨h1, h2⟩ := hc k e hk
      exact ⟨(hb.cell (p := ⟨g, _, none⟩) hg).trans h1, (hb.cell (p := ⟨g, _, none⟩) hg).trans h2⟩⟩
theorem ofInt_u64 (a : Nat) (ha : a < 18446744073709551616) : (BitVec.ofInt 64 (a : Int)).toNat = a := by
  rw [BitVec.ofInt_natCast, BitVec.toNat_ofNat]; exact Nat.mod_eq_of_lt (by omega)
theorem u64_and_nat (a b : Nat) (ha : a < 18446744073709551616) (hb : b < 18446744073709551616) : bits .and .u64 (a : Int) (b : Int) = ((a &&& b : Nat) : Int) := by
  have hx : a &&& b < 2 ^ 64 := Nat.and_lt_two_pow _ (by omega)
  show IntKind.u64.wrap ((BitVec.ofInt 64 (a : Int) &&& BitVec.ofInt 64 (b : Int)).toNat : Int) = _
  rw [BitVec.toNat_and, ofInt_u64 a ha, ofInt_u64 b hb, IntKind.wrap_u64]
  omega
theorem u64_or_nat (a b : Nat) (ha : a < 18446744073709551616) (hb : b < 18446744073709551616) : bits .or .u64 (a : Int) (b : Int) = ((a ||| b : Nat) : Int) := by
  have hx : a ||| b < 2 ^ 64 := Nat.or_lt_two_pow (by omega) (by omega)
  show IntKind.u64.wrap ((BitVec.ofInt 64 (a : Int) ||| BitVec.ofInt 64 (b : Int)).toNat : Int) = _
  rw [BitVec.toNat_or, ofInt_u64 a ha, ofInt_u64 b hb, IntKind.wrap_u64]
  omega
theorem u64_xor_nat (a b : Nat) (ha : a < 18446744073709551616) (hb : b < 18446744073709551616) : bits .xor .u64 (a : Int) (b : Int) = ((a ^^^ b : Nat) : Int) := by
  have hx : a ^^^ b < 2 ^ 64 := Nat.xor_lt_two_pow (by omega) (by omega)
  show IntKind.u64.wrap ((BitVec.ofInt 64 (a : Int) ^^^ BitVec.ofInt 64 (b : Int)).toNat : Int) = _
  rw [BitVec.toNat_xor, ofInt_u64 a ha, ofInt_u64 b hb, IntKind.wrap_u64]
  omega
theorem mod2_bi (m k : Nat) : ((m / 2 ^ k % 2 : Nat) : Int) = bi (m.testBit k) := by
  rw [testBit_div]
  rcases Nat.mod_two_eq_zero_or_one (m / 2 ^ k) with h | h <;> rw [h] <;> rfl
theorem u64_bit (m k : Nat) (hm : m < 18446744073709551616) : bits .and .u64 ((m : Int) / 2 ^ k) 1 = bi (m.testBit k) := by
  have e : ((m : Int) / 2 ^ k) = ((m / 2 ^ k : Nat) : Int) := by push_cast; rfl
  have h : m / 2 ^ k < 18446744073709551616 := Nat.lt_of_le_of_lt (Nat.div_le_self _ _) hm
  rw [e, show (1 : Int) = ((1 : Nat) : Int) from rfl, u64_and_nat _ 1 h (by omega), Nat.and_one_is_mod, mod2_bi]
theorem i64_bit (m k : Nat) (hm : m < 9223372036854775808) : bits .and .i64 ((m : Int) / 2 ^ k) 1 = bi (m.testBit k) := by
  have e : ((m : Int) / 2 ^ k) = ((m / 2 ^ k : Nat) : Int) := by push_cast; rfl
  have h : m / 2 ^ k < 9223372036854775808 := Nat.lt_of_le_of_lt (Nat.div_le_self _ _) hm
  rw [e, show (1 : Int) = ((1 : Nat) : Int) from rfl, i64_and_nat _ 1 h (by omega), Nat.and_one_is_mod, mod2_bi]
theorem bi_xor (a b : Bool) : bits .xor .i64 (bi a) (bi b) = bi (a ^^ b) := by cases a <;> cases b <;> decide
theorem and_pow_eq (m p : Nat) : m &&& 2 ^ p = if m.testBit p then 2 ^ p else 0 := by
  refine Nat.eq_of_testBit_eq fun i => ?_
  rw [Nat.testBit_and, Nat.testBit_two_pow]
  by_cases e : p = i
  · subst e
    cases h : m.testBit p <;> simp
  · cases h : m.testBit p <;> simp [e, Nat.testBit_two_pow]
/-- a byte whose bit is cleared -/
def clrX (x r : Nat) : Nat := if x.testBit (7 - r) then x ^^^ 128 / 2 ^ r else x
theorem clr1_at {l : List Nat} {bit k r x : Nat} (hk : bit / 8 = k) (hr : bit % 8 = r) (hx : l[k]? = some x) : clr1 l bit = l.set k (clrX x r) := by
  unfold clr1 clrX bitAt
  rw [hk, hr, List.getD_eq_getElem?_getD, hx, Option.getD_some]
  split
  · exact flipN_at hk hr hx
  · obtain ⟨h, rfl⟩ := List.getElem?_eq_some_iff.1 hx
    rw [List.set_getElem_self]
theorem andnot_u8 : ∀ r : Fin 8, ∀ x : Fin 256, bits .andNot .u8 (x.val : Int) ((128 / 2 ^ r.val : Nat) : Int) = ((clrX x.val r.val : Nat) : Int) := by decide +kernel
theorem andnot_sh (x r : Nat) (hx : x < 256) (hr : r < 8) : bits .andNot .u8 (x : Int) (128 / 2 ^ r) = ((clrX x r : Nat) : Int) := by
  have := andnot_u8 ⟨r, hr⟩ ⟨x, hx⟩
  rw [← this]; simp
theorem rowi_info : (Tryz.prog.info? 197).map (fun i => (i.zero, i.size, i.bytes)) = some (some (.agg #[.int .u64 0, .int .i64 0]), 2, 16) := by kernel_rfl
theorem wrap_pow (k : Nat) (h : k < 64) : IntKind.u64.wrap (2 ^ k) = ((2 ^ k : Nat) : Int) := by
  have hp : 2 ^ k < 18446744073709551616 := Nat.lt_of_lt_of_le (Nat.pow_lt_pow_right (by omega) h) (by decide)
  have e : ((2 : Int) ^ k) = ((2 ^ k : Nat) : Int) := by push_cast; rfl
  rw [e, IntKind.wrap_u64]; exact Int.emod_eq_of_lt (Int.natCast_nonneg _) (Int.ofNat_lt.2 hp)
abbrev RowL (κ : IntKind) (e : TypeId) (B : Nat) (w : World) (v : Value) (l : List Rw) : Prop := OwnL (rc κ) 2 e B w v l
theorem rowc_news (κ : IntKind) (m : Nat) (b : Bool) {w : World} {g : Nat} (h0 : w.cell? ⟨g, 0, none⟩ = some (.int .u64 m)) (h1 : w.cell? ⟨g, 1, none⟩ = some (.int κ (bi b))) : ∀ j u, (rc κ ⟨m, b⟩)[j]? = some u → w.cell? ⟨g, j, none⟩ = some u := by
  intro j u hu
  match j, hu with
  | 0, hu => simp [rc] at hu; subst hu; exact h0
  | 1, hu => simp [rc] at hu; subst hu; exact h1
  | j + 2, hu => simp [rc] at hu
def intsN (u : List Nat) : List Int := u.map fun i : Nat => (i : Int)
theorem intsN_len (u : List Nat) : (intsN u).length = u.length := by simp [intsN]
theorem intsN_get {u : List Nat} {k b : Nat} (h : u[k]? = some b) : (intsN u)[k]? = some (b : Int) := by simp [intsN, h]
theorem intsN_back (u : List Nat) : (intsN u).map Int.toNat = u := by
  unfold intsN; rw [List.map_map]
  conv => rhs; rw [← List.map_id u]
  exact List.map_congr_left fun x _ => by simp
theorem intsN_app (u : List Nat) (b : Nat) : intsN (u ++ [b]) = intsN u ++ [(b : Int)] := by simp [intsN]
theorem ints_shape {B : Nat} {w : World} {v : Value} {u : List Nat} (h : Int64L B w v (intsN u)) : ∃ A c, v = .slice A u.length c ∧ (u = [] ∨ ∃ g, A = some ⟨g, 0, none⟩ ∧ B ≤ g ∧ g < w.heap.size) := by
  obtain ⟨A, c, rfl, hA⟩ := h.shape
  refine ⟨A, c, by rw [intsN_len], hA.imp (fun h => ?_) id⟩
  have := congrArg List.length h
  rw [intsN_len] at this
  exact List.eq_nil_of_length_eq_zero this
end Go.Proofs.YtddihmpiaemadaaGreatDoor
namespace Go.Proofs.YtddihmpiaemadaaGreatDoor
set_option linter.unusedVariables false
set_option linter.unusedSimpArgs false
open Go.RowKit
def risesF (lo hi : Int) : Option Int → List Int → Bool
  | _, [] => true
  | p, x :: r => (inB x lo hi && (match p with | none => true | some y => !decide (x ≤ y))) && risesF lo hi (some x) r
def gapB (p : Option Int) (x : Int) : Bool := match p with | none => true | some y => !decide (x ≤ y)
theorem risesF_cons (lo hi : Int) (p : Option Int) (x : Int) (r : List Int) : risesF lo hi p (x :: r) = ((inB x lo hi && gapB p x) && risesF lo hi (some x) r) := by cases p <;> rfl
def risesB (lo hi : Int) (l : List Int) : Bool := risesF lo hi none l
def lastO (l : List Int) (k : Nat) : Option Int := if k = 0 then none else l[k - 1]?
theorem ri_yes {l : List Int} {k : Nat} {x lo hi : Int} {X : Bool} (hs : l[k]? = some x) (H : Hid (X = risesF lo hi (lastO l k) (l.drop k))) (h1 : inB x lo hi = true) (h2 : ∀ y, 0 < k → l[k - 1]? = some y → ¬ x ≤ y) : Hid (X = risesF lo hi (lastO l (k + 1)) (l.drop (k + 1))) := by
  obtain ⟨hk, rfl⟩ := List.getElem?_eq_some_iff.1 hs
  refine Lib.hid ?_
  rw [H.out, List.drop_eq_getElem_cons hk, risesF_cons, h1, Bool.true_and]
  have e1 : lastO l (k + 1) = some l[k] := by unfold lastO; rw [if_neg (by omega), Nat.add_sub_cancel]; exact hs
  rw [e1]
  unfold lastO
  by_cases h0 : k = 0
  · rw [if_pos h0]; rfl
  · rw [if_neg h0]
    cases hp : l[k - 1]? with
    | none => rfl
    | some y => unfold gapB; simp only [decide_eq_false (h2 y (by omega) hp)]; rfl
theorem ri_no1 {l : List Int} {k : Nat} {x lo hi : Int} {X : Bool} (hs : l[k]? = some x) (H : Hid (X = risesF lo hi (lastO l k) (l.drop k))) (h1 : inB x lo hi = false) : X = false := by
  obtain ⟨hk, rfl⟩ := List.getElem?_eq_some_iff.1 hs
  rw [H.out, List.drop_eq_getElem_cons hk, risesF_cons, h1, Bool.false_and, Bool.false_and]
theorem ri_no2 {l : List Int} {k : Nat} {x y lo hi : Int} {X : Bool} (hs : l[k]? = some x) (H : Hid (X = risesF lo hi (lastO l k) (l.drop k))) (hk0 : 0 < k) (hy : l[k - 1]? = some y) (h2 : x ≤ y) : X = false := by
  obtain ⟨hk, rfl⟩ := List.getElem?_eq_some_iff.1 hs
  rw [H.out, List.drop_eq_getElem_cons hk, risesF_cons]
  unfold lastO
  rw [if_neg (by omega), hy]
  simp only [gapB, decide_eq_true h2, Bool.not_true, Bool.and_false, Bool.false_and]
theorem ri_end {l : List Int} {k : Nat} {lo hi : Int} {X : Bool} (hk : l.length ≤ k) (H : Hid (X = risesF lo hi (lastO l k) (l.drop k))) : X = true := by
  rw [H.out, List.drop_of_length_le hk, risesF]
/-- a slice that reads as the numbers l -/
def IntsAt (w : World) (v : Value) (l : List Int) : Prop := ∃ A c, v = .slice A l.length c ∧ (l = [] ∨ ∃ g, A = some ⟨g, 0, none⟩ ∧ g < w.heap.size ∧ ∀ k x, l[k]? = some x → w.cell? ⟨g, k, none⟩ = some (.int .i64 x))
theorem intsAt_own {B : Nat} {w : World} {v : Value} {l : List Int} (h : Int64L B w v l) : IntsAt w v l := by
  obtain ⟨A, c, rfl, hA⟩ := OwnL.shape h
  refine ⟨A, c, rfl, ?_⟩
  rcases hA with hA | ⟨g, rfl, _, hg⟩
  · exact .inl hA
  · exact .inr ⟨g, rfl, hg, fun k x hk => by
      have := OwnL.cell icell_len h hk (j := 0) rfl
      simpa using this⟩
set_option maxRecDepth 20000 in
set_option maxHeartbeats 2000000 in
theorem rises_i (l : List Int) (v : Value) (lo hi : Int) (w : World) (h : IntsAt w v l) (hm : l.length ≤ 8388608) :
    Calls Tryz.prog 113 #[v, .int .i64 lo, .int .i64 hi] w fun e w' => e = .returned (.bool (risesB lo hi l)) ∧ w = w' := by
  obtain ⟨A, c, rfl, hA⟩ := h
  by_cases hl0 : l = []
  · subst hl0
    go_enter Tryz.func113, Tryz.ntmps113
    go_wp2
    refine wp_loop_once ?_
    go_wp2
    go_ret
    exact ⟨rfl, rfl⟩
  · obtain ⟨g, rfl, hg, hc⟩ := hA.resolve_left hl0
    have HC := Lib.hid hc
    clear hA hc
    go_enter Tryz.func113, Tryz.ntmps113
    go_wp2
    go_loop [11] (fun i => ∃ k : Nat, k ≤ l.length ∧ i = .int .i64 k ∧ Hid (risesB lo hi l = risesF lo hi (lastO l k) (l.drop k))) (fun i => l.length - (intOf i).toNat)
    case atStart => exact ⟨0, by omega, rfl, Lib.hid rfl⟩
    case round =>
      obtain ⟨k, hk, rfl, HK⟩ := hrel
      by_cases hlt : k < l.length
      · obtain ⟨x, hx⟩ : ∃ x, l[k]? = some x := ⟨l[k], List.getElem?_eq_getElem hlt⟩
        have pk := HC.out k x hx
        have HX := Lib.hid hx
        clear hx
        cases h1 : inB x lo hi
        · go_wp2_with (go_at_call 41; refine (within_i _ _ _ _).mono ?_; rintro e w1 ⟨rfl, rfl⟩)
          go_ret
          exact ⟨ret_bool (ri_no1 HX.out HK h1).symm, rfl⟩
        · rcases Nat.eq_zero_or_pos k with rfl | hk0
          · have HN := ri_yes HX.out HK h1 (fun y hy => by omega)
            go_wp2_with (go_at_call 41; refine (within_i _ _ _ _).mono ?_; rintro e w1 ⟨rfl, rfl⟩)
            go_round
            case rel => exact ⟨1, by omega, by go_num, HN⟩
            case measure => simp [intOf]; omega
          · obtain ⟨y, hy⟩ : ∃ y, l[k - 1]? = some y := ⟨l[k - 1]'(by omega), List.getElem?_eq_getElem (by omega)⟩
            have py := HC.out (k - 1) y hy
            have HY := Lib.hid hy
            clear hy
            obtain ⟨j, rfl⟩ : ∃ j, k = j + 1 := ⟨k - 1, by omega⟩
            rw [Nat.add_sub_cancel] at py
            cases h2 : decide (x ≤ y)
            · have h2' := of_decide_eq_false h2
              have HN := ri_yes HX.out HK h1 (fun y' _ hy' => by rw [HY.out] at hy'; cases hy'; exact h2')
              go_wp2_with (go_at_call 41; refine (within_i _ _ _ _).mono ?_; rintro e w1 ⟨rfl, rfl⟩)
              go_round
              case rel => exact ⟨j + 1 + 1, by omega, by go_num, HN⟩
              case measure => simp [intOf]; omega
            · have h2' := of_decide_eq_true h2
              go_wp2_with (go_at_call 41; refine (within_i _ _ _ _).mono ?_; rintro e w1 ⟨rfl, rfl⟩)
              go_ret
              exact ⟨ret_bool (ri_no2 HX.out HK hk0 HY.out h2').symm, rfl⟩
      · go_wp2
        go_ret
        exact ⟨ret_bool (ri_end (by omega) HK).symm, rfl⟩
end Go.Proofs.YtddihmpiaemadaaGreatDoor
namespace Go.Proofs.YtddihmpiaemadaaGreatDoor
set_option linter.unusedVariables false
set_option linter.unusedSimpArgs false
open Go.RowKit
theorem rises_low {lo hi : Int} : ∀ {l : List Int} {p : Option Int}, risesF lo hi p l = true → (∀ x ∈ l, lo ≤ x ∧ x ≤ hi) ∧ l.Pairwise (· < ·) ∧ (∀ y, p = some y → ∀ x ∈ l, y < x) := by
  intro l
  induction l with
  | nil => intro p _; exact ⟨(by intro x h; cases h), List.Pairwise.nil, (by intro y _ x h; cases h)⟩
  | cons a r ih =>
    intro p h
    rw [risesF_cons, Bool.and_eq_true, Bool.and_eq_true] at h
    obtain ⟨h1, h2, h3⟩ := ih h.2
    have hb := inB_yes h.1.1
    refine ⟨fun x hx => ?_, List.pairwise_cons.2 ⟨fun x hx => h3 a rfl x hx, h2⟩, fun y hy x hx => ?_⟩
    · rcases List.mem_cons.1 hx with rfl | hx
      · exact hb
      · exact h1 x hx
    · subst hy
      have hya : y < a := by have := h.1.2; simp [gapB] at this; exact this
      rcases List.mem_cons.1 hx with rfl | hx
      · exact hya
      · have := h3 a rfl x hx; omega
end Go.Proofs.YtddihmpiaemadaaGreatDoor
namespace Go.Proofs.YtddihmpiaemadaaGreatDoor
set_option linter.unusedVariables false
set_option linter.unusedSimpArgs false
open Go.RowKit
/-- the rows: K unknown bits in all, one more in the first i of them -/
def rowsP (n : Nat) (unk : List Nat) (rest K i : Nat) : List Rw := (List.range 16).map fun j => ⟨maskR n unk j (if j < i then K + 1 else K), rest.testBit (15 - j)⟩
/-- the right sides of the first i rows -/
def rowsB (rest i : Nat) : List Rw := (List.range 16).map fun j => ⟨0, decide (j < i) && rest.testBit (15 - j)⟩
def rowsT (rest i : Nat) : List Rw := (List.range i).map fun j => ⟨0, rest.testBit (15 - j)⟩
theorem map_range_get {α : Type} {f : Nat → α} {n i : Nat} (h : i < n) : ((List.range n).map f)[i]? = some (f i) := by simp [h]
theorem map_range_set {α : Type} {f g : Nat → α} {n i : Nat} {x : α} (hx : g i = x) (h : ∀ j, j < n → j ≠ i → f j = g j) : ((List.range n).map f).set i x = (List.range n).map g := by
  apply List.ext_getElem
  · simp
  · intro j h1 h2
    have hj : j < n := by simpa using h2
    rw [List.getElem_set]
    split
    · rename_i e; subst e; simp [hx]
    · rename_i e; simp [h j hj (Ne.symm e)]
theorem map_range_congr {α : Type} {f g : Nat → α} {n : Nat} (h : ∀ j, j < n → f j = g j) : (List.range n).map f = (List.range n).map g := List.map_congr_left fun j hj => h j (List.mem_range.1 hj)
theorem rowsP_all (n : Nat) (unk : List Nat) (rest K : Nat) : rowsP n unk rest K 16 = rowsP n unk rest (K + 1) 0 := map_range_congr fun j hj => by rw [if_pos hj, if_neg (by omega)]
theorem rowsP_end (n : Nat) (unk : List Nat) (rest : Nat) : rowsP n unk rest unk.length 0 = rowsR n unk rest := map_range_congr fun j hj => by rw [if_neg (by omega)]
theorem rowsP_get {n : Nat} {unk : List Nat} {rest K i : Nat} (h : i < 16) : (rowsP n unk rest K i)[i]? = some ⟨maskR n unk i K, rest.testBit (15 - i)⟩ := by
  unfold rowsP; rw [map_range_get h, if_neg (by omega)]
theorem rowsP_set {n : Nat} {unk : List Nat} {rest K i : Nat} : (rowsP n unk rest K i).set i ⟨maskR n unk i (K + 1), rest.testBit (15 - i)⟩ = rowsP n unk rest K (i + 1) :=
  map_range_set (by rw [if_pos (by omega)]) fun j _ hne => by
    by_cases h : j < i
    · rw [if_pos h, if_pos (by omega)]
    · rw [if_neg h, if_neg (by omega)]
theorem rowsP_same {n : Nat} {unk : List Nat} {rest K i : Nat} (h : maskR n unk i (K + 1) = maskR n unk i K) : rowsP n unk rest K (i + 1) = rowsP n unk rest K i := by
  by_cases hi : i < 16
  · rw [← rowsP_set, h]
    have := rowsP_get (n := n) (unk := unk) (rest := rest) (K := K) hi
    obtain ⟨h1, h2⟩ := List.getElem?_eq_some_iff.1 this
    rw [← h2, List.set_getElem_self]
  · exact map_range_congr fun j hj => by rw [if_pos (by omega), if_pos (by omega)]
theorem rowsB_get {rest i : Nat} (h : i < 16) : (rowsB rest i)[i]? = some ⟨0, false⟩ := by
  unfold rowsB; rw [map_range_get h, decide_eq_false (by omega)]; rfl
theorem rowsB_set {rest i : Nat} : (rowsB rest i).set i ⟨0, rest.testBit (15 - i)⟩ = rowsB rest (i + 1) :=
  map_range_set (by rw [decide_eq_true (by omega)]; rfl) fun j _ hne => by
    by_cases h : j < i
    · rw [decide_eq_true h, decide_eq_true (by omega)]
    · rw [decide_eq_false h, decide_eq_false (by omega)]
theorem rowsB_end (n : Nat) (unk : List Nat) (rest : Nat) : rowsB rest 16 = rowsP n unk rest 0 0 := map_range_congr fun j hj => by rw [decide_eq_true hj, if_neg (by omega)]; rfl
theorem maskR_yes {n : Nat} {unk : List Nat} {i K x : Nat} (hx : unk.getD K 0 = x) (h : (effN n x).testBit (15 - i) = true) : maskR n unk i (K + 1) = maskR n unk i K ||| 2 ^ K := by
  rw [maskR, hx, if_pos h]
theorem maskR_no {n : Nat} {unk : List Nat} {i K x : Nat} (hx : unk.getD K 0 = x) (h : (effN n x).testBit (15 - i) = false) : maskR n unk i (K + 1) = maskR n unk i K := by
  rw [maskR, hx, if_neg (by rw [h]; decide)]
theorem maskR_64 (n : Nat) (unk : List Nat) (i : Nat) {K : Nat} (h : K ≤ 64) : maskR n unk i K < 18446744073709551616 :=
  Nat.lt_of_lt_of_le (maskR_lt n unk i K) (Nat.pow_le_pow_right (n := 2) (by omega) h)
/-- data, unknown bits and a check value that are as described -/
def unkOk (s : ByteArray) (l : List Int) (c : Int) : Bool := (inB s.size 1 64 && inB c 0 65535) && (decide (l.length ≤ 64) && risesB 0 (8 * s.size - 1) l)
end Go.Proofs.YtddihmpiaemadaaGreatDoor
namespace Go.Proofs.YtddihmpiaemadaaGreatDoor
set_option linter.unusedVariables false
set_option linter.unusedSimpArgs false
open Go.RowKit

def effR (n b : Int) : Int := if inB n 1 64 && inB b 0 (8 * n - 1) then (effN n.toNat b.toNat : Nat) else 0
end Go.Proofs.YtddihmpiaemadaaGreatDoor
namespace Go.Proofs.YtddihmpiaemadaaGreatDoor
set_option linter.unusedVariables false
set_option linter.unusedSimpArgs false
open Go.RowKit

/-- looks for the only bit, from bit k on, m bits left -/
def ffL (n : Nat) (wn : Nat) (found : Int) : Nat → Nat → Int × Int
  | _, 0 => if found < 0 then (0, 3) else (found, 0)
  | k, m + 1 => if effN n k = wn then (if 0 ≤ found then (0, 11) else ffL n wn k (k + 1) m) else ffL n wn found (k + 1) m
def ffR (s : ByteArray) (crc : Int) : Int × Int :=
  if inB s.size 1 64 && inB crc 0 65535 then
    if crcN (bts s) 65535 ^^^ crc.toNat = 0 then (-1, 0) else ffL s.size (crcN (bts s) 65535 ^^^ crc.toNat) (-1) 0 (8 * s.size)
  else (0, 1)
def ffV (s : ByteArray) (crc : Int) : Value := .tuple #[.int .i64 (ffR s crc).1, .int .i64 (ffR s crc).2]
end Go.Proofs.YtddihmpiaemadaaGreatDoor
namespace Go.Proofs.YtddihmpiaemadaaGreatDoor
set_option linter.unusedVariables false
set_option linter.unusedSimpArgs false
open Go.RowKit
end Go.Proofs.YtddihmpiaemadaaGreatDoor
namespace Go.Proofs.YtddihmpiaemadaaGreatDoor
set_option linter.unusedVariables false
set_option linter.unusedSimpArgs false
open Go.RowKit
theorem take_next {l : List Nat} {k x : Nat} (h : l[k]? = some x) : l.take (k + 1) = l.take k ++ [x] := by
  obtain ⟨hk, rfl⟩ := List.getElem?_eq_some_iff.1 h
  rw [List.take_succ_eq_append_getElem hk]
theorem clrN_take {l u : List Nat} {k b : Nat} (h : u[k]? = some b) : clrN l (u.take (k + 1)) = clr1 (clrN l (u.take k)) b := by rw [take_next h, clrN_snoc]
def clrQ1 (s : ByteArray) (u : List Nat) (w : World) (e : Ending) (w' : World) : Prop := e = .returned (.string (strN (clrN (bts s) u))) ∧ Below w.heap.size w w'
def clrQ2 (s : ByteArray) (u : List Nat) (w : World) (e : Ending) (w' : World) : Prop := ∃ c, e = .returned (.slice (some ⟨w.heap.size, 0, none⟩) s.size c) ∧ Buf w' w.heap.size (clrN (bts s) u) ∧ w.heap.size < w'.heap.size ∧ Below w.heap.size w w'
set_option maxRecDepth 20000 in
set_option maxHeartbeats 2000000 in
theorem clear_i (s : ByteArray) (u : List Nat) (v : Value) (w : World) (h : IntsAt w v (intsN u)) (hu : ∀ b ∈ u, b < 8 * s.size) (hs : s.size ≤ 1048576) (hm : u.length ≤ 1048576) :
    Calls Tryz.prog 149 #[.string s, v] w fun e w' => clrQ1 s u w e w' := by
  unfold clrQ1
  obtain ⟨cb, wb, hcv, hbuf, hb0, hwz⟩ := buf_of_str w s
  obtain ⟨A, cA, rfl, hA⟩ := h
  rw [intsN_len]
  have hl := bts_len s
  by_cases hu0 : u = []
  · subst hu0
    have hst := (hbuf.str (n := s.size) (c := cb) hl)
    go_enter Tryz.func149, Tryz.ntmps149
    go_wp2
    refine wp_loop_once ?_
    go_wp2
    go_ret
    first | exact ⟨rfl, hb0⟩ | exact ⟨_, rfl, hbuf, by omega, hb0⟩
  · obtain ⟨g, rfl, hg, hc⟩ := hA.resolve_left (by simpa [intsN] using hu0)
    have HC := Lib.hid hc
    have HU := Lib.hid hu
    clear hA hc hu
    go_enter Tryz.func149, Tryz.ntmps149
    go_wp2
    go_loopw [12] (fun i wr => ∃ k : Nat, k ≤ u.length ∧ i = .int .i64 k ∧ Below w.heap.size w wr ∧ w.heap.size < wr.heap.size ∧ Hid (Buf wr w.heap.size (clrN (bts s) (u.take k)))) (fun i _ => u.length - (intOf i).toNat)
    case atStart => exact ⟨0, by omega, rfl, hb0, by omega, Lib.hid (by simpa [clrN] using hbuf)⟩
    case round =>
      obtain ⟨k, hk, rfl, hb, hz, HB⟩ := hrel
      by_cases hlt : k < u.length
      · obtain ⟨b, hbk⟩ : ∃ b, u[k]? = some b := ⟨u[k], List.getElem?_eq_getElem hlt⟩
        have hbs := HU.out b (List.mem_of_getElem? hbk)
        have pk := (hb.cell (p := ⟨g, k, none⟩) hg).trans (HC.out k _ (intsN_get hbk))
        obtain ⟨kk, r, hkk, hr, hr8, hbit⟩ := bit_split b
        have hll : (clrN (bts s) (u.take k)).length = s.size := by rw [clrN_len]; exact hl
        obtain ⟨x, hx⟩ : ∃ x, (clrN (bts s) (u.take k))[kk]? = some x := ⟨_, List.getElem?_eq_getElem (by omega)⟩
        obtain ⟨p1, p2⟩ := HB.out kk x hx
        have hx8 := clrN_lt bts_lt x (List.mem_of_getElem? hx)
        have HS := Lib.hid (HB.out.set (clrX x r) hx)
        rw [← clr1_at hkk hr hx, ← clrN_take hbk] at HS
        have e1 : ((b : Int) / 8) = (kk : Int) := by omega
        have e2 : ((b : Int) % 8) = (r : Int) := by omega
        have e3 : ((b : Int).tmod 8) = (r : Int) := by rw [Int.tmod_eq_emod_of_nonneg (by omega)]; omega
        have hww : IntKind.i64.wrap (kk : Int) = kk := by rw [IntKind.wrap_i64]; omega
        have hwr : IntKind.i64.wrap (r : Int) = r := by rw [IntKind.wrap_i64]; omega
        have hxs := andnot_sh x r hx8 hr8
        have hkk2 : kk < s.size := by omega
        have hxs8 : bits .andNot .u8 (x : Int) (128 / 2 ^ min r 8) = ((clrX x r : Nat) : Int) := by rw [Nat.min_eq_left (by omega)]; exact hxs
        clear hbk hkk hr hbit hx hll
        go_wp2
        have q0 := (show ({ wr with drawn := wr.drawn + 1 } : World).cell? _ = _ from pk)
        have q1 := (show ({ wr with drawn := wr.drawn + 1 } : World).cell? _ = _ from p1)
        have q2 := (show ({ wr with drawn := wr.drawn + 1 } : World).frozen? _ = _ from p2)
        go_still_tail 10, (by kernel_rfl)
        go_wp2
        go_roundw
        case rel => exact ⟨k + 1, by omega, by go_num, (by repeat (first | exact Below.refl _ _ | refine Below.alloc ?_ (by first | omega | (simp; done) | (simp; omega)) _ | apply Below.drew | apply below_drewN | refine Below.setCell ?_ (by first | omega | (simp; done) | (simp; omega)) _ | refine Below.trans ?_ (Below.mono (by assumption) (by first | omega | (simp; done) | (simp; omega))))), by simp; omega, Lib.hid (by first | exact HS.out.block rfl | (rw [hxs8]; exact HS.out.block rfl))⟩
        case measure => simp [intOf]; omega
      · obtain rfl : k = u.length := by omega
        have HB2 := HB.out
        rw [List.take_length] at HB2
        have hst := HB2.str (n := s.size) (c := cb) (by rw [clrN_len]; exact hl)
        go_wp2
        go_ret
        first | exact ⟨rfl, hb⟩ | exact ⟨_, rfl, HB2, by omega, hb⟩
end Go.Proofs.YtddihmpiaemadaaGreatDoor
