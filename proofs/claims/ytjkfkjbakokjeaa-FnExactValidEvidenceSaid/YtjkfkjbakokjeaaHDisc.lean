/- The laws' own helpers over discs: sizes. -/
import Derived.Test.YtjkfkjbakokjeaaHSector
namespace Go.Proofs.Ytjkfkjbakokjeaa
set_option linter.unusedVariables false
open Go.RowKit

structure Dsc where
  cyl : Int
  heads : Int
  per : Int
  size : Int
  secs : List Sec
instance : Inhabited Dsc := ⟨⟨0, 0, 0, 0, []⟩⟩
abbrev SecIn (w : World) (v : Value) (l : List Sec) : Prop := RawL Sec.cells 2 w v l ∧ ∀ e ∈ l, e.data.size ≤ maxLen
abbrev SecOwn (B : Nat) (w : World) (v : Value) (l : List Sec) : Prop := OwnL Sec.cells 2 76 B w v l
theorem SecIn.below {w w' : World} {v : Value} {l : List Sec} (h : SecIn w v l) (hb : Below w.heap.size w w') : SecIn w' v l := ⟨h.1.below hb, h.2⟩
def Dsc.ints (d : Dsc) : List Value := [.int .i64 d.cyl, .int .i64 d.heads, .int .i64 d.per, .int .i64 d.size]
/-- discs that came in -/
def DscIn (w : World) (v : Value) (l : List Dsc) : Prop := ∃ A c, v = .slice A l.length c ∧ l.length ≤ maxLen ∧ (l = [] ∨ ∃ b o, A = some ⟨b, o, none⟩ ∧ b < w.heap.size ∧ ∀ (k : Nat) (e : Dsc), l[k]? = some e → ∃ bv, SecIn w bv e.secs ∧ ∀ (j : Nat) (u : Value), (e.ints ++ [bv])[j]? = some u → w.cell? ⟨b, o + k * 5 + j, none⟩ = some u)
theorem DscIn.below {w w' : World} {v : Value} {l : List Dsc} (h : DscIn w v l) (hb : Below w.heap.size w w') : DscIn w' v l := by
  obtain ⟨A, c, rfl, hm, h⟩ := h
  refine ⟨A, c, rfl, hm, ?_⟩
  rcases h with h | ⟨b, o, rfl, hlt, hc⟩
  · exact .inl h
  · exact .inr ⟨b, o, rfl, Nat.lt_of_lt_of_le hlt hb.size, fun k e hk => by
      obtain ⟨bv, h1, h2⟩ := hc k e hk
      exact ⟨bv, h1.below hb, fun j u hu => (hb.cell (p := ⟨b, _, none⟩) hlt).trans (h2 j u hu)⟩⟩
/-- discs that the call has made -/
def DscOwn (B : Nat) (w : World) (v : Value) (l : List Dsc) : Prop := ∃ A c, v = .slice A l.length c ∧ (l = [] ∨ ∃ g, A = some ⟨g, 0, none⟩ ∧ B ≤ g ∧ g < w.heap.size ∧ ∀ (k : Nat) (e : Dsc), l[k]? = some e → ∃ bv, SecOwn B w bv e.secs ∧ ∀ (j : Nat) (u : Value), (e.ints ++ [bv])[j]? = some u → w.cell? ⟨g, k * 5 + j, none⟩ = some u)
theorem DscOwn.below {B : Nat} {w w' : World} {v : Value} {l : List Dsc} (h : DscOwn B w v l) (hb : Below w.heap.size w w') : DscOwn B w' v l := by
  obtain ⟨A, c, rfl, h⟩ := h
  refine ⟨A, c, rfl, ?_⟩
  rcases h with h | ⟨g, rfl, hB, hlt, hc⟩
  · exact .inl h
  · exact .inr ⟨g, rfl, hB, Nat.lt_of_lt_of_le hlt hb.size, fun k e hk => by
      obtain ⟨bv, h1, h2⟩ := hc k e hk
      exact ⟨bv, OwnL.below h1 hb, fun j u hu => (hb.cell (p := ⟨g, _, none⟩) hlt).trans (h2 j u hu)⟩⟩
def Dsc.wt (d : Dsc) : Nat := d.secs.length + Sec.wts d.secs
def Dsc.wts (l : List Dsc) : Nat := (l.map Dsc.wt).foldr (· + ·) 0
theorem Dsc.wts_drop {l : List Dsc} {k : Nat} {e : Dsc} (he : l[k]? = some e) : Dsc.wts (l.drop k) = e.wt + Dsc.wts (l.drop (k + 1)) := by
  obtain ⟨h, rfl⟩ := List.getElem?_eq_some_iff.1 he
  rw [List.drop_eq_getElem_cons h]; rfl
theorem Dsc.wts_le {l : List Dsc} {e : Dsc} (he : e ∈ l) : e.wt ≤ Dsc.wts l := by
  induction l with
  | nil => cases he
  | cons a l ih =>
    show _ ≤ a.wt + Dsc.wts l
    cases List.mem_cons.1 he with
    | inl h => subst h; exact Nat.le_add_right _ _
    | inr h => exact Nat.le_trans (ih h) (Nat.le_add_left _ _)
abbrev dscV (d : Dsc) (bv : Value) : Value := .agg #[.int .i64 d.cyl, .int .i64 d.heads, .int .i64 d.per, .int .i64 d.size, bv]
set_option maxHeartbeats 1000000 in
theorem szDsc (d : Dsc) (bv : Value) (x0 : Int) (w : World) (hr : SecIn w bv d.secs) (hx : 0 ≤ x0 ∧ x0 ≤ 1048576) :
    Calls Try.prog 18 #[dscV d bv, .int .i64 x0] w fun e w' => e = .returned (.int .i64 (szR x0 d.wt)) ∧ Below w.heap.size w w' := by
  have hs := szSectorS d.secs bv x0 (w.alloc (.cells #[.int .i64 d.cyl, .int .i64 d.heads, .int .i64 d.per, .int .i64 d.size, bv] 40)) (hr.1.below (Below.alloc (Below.refl _ _) (Nat.le_refl _) _)) hr.2 hx
  have hs' : Calls Try.prog 35 #[bv, .int .i64 x0] (w.alloc (.cells #[.int .i64 d.cyl, .int .i64 d.heads, .int .i64 d.per, .int .i64 d.size, bv] 40)) fun e w' => e = .returned (.int .i64 (szR x0 d.wt)) ∧ Below (w.alloc (.cells #[.int .i64 d.cyl, .int .i64 d.heads, .int .i64 d.per, .int .i64 d.size, bv] 40)).heap.size (w.alloc (.cells #[.int .i64 d.cyl, .int .i64 d.heads, .int .i64 d.per, .int .i64 d.size, bv] 40)) w' := hs
  clear hs
  have hne : szR x0 d.wt < 0 → szR x0 d.wt = -1 := fun h => szR_no (szR_neg.1 h)
  obtain ⟨⟨A, c, rfl, _, _⟩, _⟩ := hr
  generalize szR x0 d.wt = y at *
  go_enter Try.func18, Try.ntmps18
  go_wp2_with (go_at_call 35; refine hs'.mono ?_; rintro e w1 ⟨rfl, hb1⟩)
  · go_ret
    exact ⟨ret_int (hne (by assumption)).symm, (by repeat (first | exact Below.refl _ _ | refine Below.alloc ?_ (by first | omega | (simp; done) | (simp; omega)) _ | apply Below.drew | apply below_drewN | refine Below.setCell ?_ (by first | omega | (simp; done) | (simp; omega)) _ | refine Below.trans ?_ (Below.mono (by assumption) (by first | omega | (simp; done) | (simp; omega)))))⟩
  · go_ret
    exact ⟨rfl, (by repeat (first | exact Below.refl _ _ | refine Below.alloc ?_ (by first | omega | (simp; done) | (simp; omega)) _ | apply Below.drew | apply below_drewN | refine Below.setCell ?_ (by first | omega | (simp; done) | (simp; omega)) _ | refine Below.trans ?_ (Below.mono (by assumption) (by first | omega | (simp; done) | (simp; omega)))))⟩
set_option maxHeartbeats 2000000 in
theorem szDscS (l : List Dsc) (v : Value) (x0 : Int) (w : World) (hr : DscIn w v l) (hx : 0 ≤ x0 ∧ x0 ≤ 1048576) :
    Calls Try.prog 43 #[v, .int .i64 x0] w fun e w' => e = .returned (.int .i64 (szR x0 (l.length + Dsc.wts l))) ∧ Below w.heap.size w w' := by
  obtain ⟨hx0, hx1⟩ := hx
  obtain ⟨A, c, rfl, hmax, hr⟩ := hr
  unfold maxLen at hmax
  by_cases hlen : (l.length : Int) ≤ x0
  · rcases hr with rfl | ⟨b, o, rfl, hlt, hc⟩
    · have HX : Hid (szR x0 0 = x0) := Lib.hid (by rw [szR_yes (by omega)]; omega)
      go_enter Try.func43, Try.ntmps43
      go_wp2
      refine wp_loop_once ?_
      go_wp2
      go_ret
      exact ⟨ret_int HX.out.symm, (by repeat (first | exact Below.refl _ _ | refine Below.alloc ?_ (by first | omega | (simp; done) | (simp; omega)) _ | apply Below.drew | apply below_drewN | refine Below.setCell ?_ (by first | omega | (simp; done) | (simp; omega)) _ | refine Below.trans ?_ (Below.mono (by assumption) (by first | omega | (simp; done) | (simp; omega)))))⟩
    · have HC := Lib.hid hc
      clear hc
      go_enter Try.func43, Try.ntmps43
      go_wp2
      go_loopw [5, 1] (fun i left wr => ∃ (k : Nat) (x : Int), k ≤ l.length ∧ i = .int .i64 k ∧ left = .int .i64 x ∧ (0 ≤ x ∧ x ≤ 1048576) ∧ Below w.heap.size w wr ∧ Hid (szR x0 (l.length + Dsc.wts l) = szR x (Dsc.wts (l.drop k)))) (fun i _ _ => l.length - (intOf i).toNat)
      case atStart => exact ⟨0, _, by omega, rfl, rfl, by omega, (by repeat (first | exact Below.refl _ _ | refine Below.alloc ?_ (by first | omega | (simp; done) | (simp; omega)) _ | apply Below.drew | apply below_drewN | refine Below.setCell ?_ (by first | omega | (simp; done) | (simp; omega)) _ | refine Below.trans ?_ (Below.mono (by assumption) (by first | omega | (simp; done) | (simp; omega))))), Lib.hid (by simp only [List.drop_zero]; unfold szR; split <;> split <;> omega)⟩
      case round =>
        obtain ⟨k, x, hk, rfl, rfl, hxx, hb, HK⟩ := hrel
        by_cases hltk : k < l.length
        · obtain ⟨e, he⟩ : ∃ e, l[k]? = some e := ⟨l[k]'(by omega), List.getElem?_eq_getElem (by omega)⟩
          have HW := Lib.hid (Dsc.wts_drop he)
          obtain ⟨bv, h1, h2⟩ := HC.out k e he
          have p0 := (hb.cell (p := ⟨b, _, none⟩) hlt).trans (h2 0 _ rfl)
          have p1 := (hb.cell (p := ⟨b, _, none⟩) hlt).trans (h2 1 _ rfl)
          have p2 := (hb.cell (p := ⟨b, _, none⟩) hlt).trans (h2 2 _ rfl)
          have p3 := (hb.cell (p := ⟨b, _, none⟩) hlt).trans (h2 3 _ rfl)
          have p4 := (hb.cell (p := ⟨b, _, none⟩) hlt).trans (h2 4 _ rfl)
          simp only [Nat.add_zero] at p0
          have hz : w.heap.size ≤ wr.heap.size := hb.size
          have hs := szDsc e bv x wr (h1.below hb) hxx
          obtain ⟨⟨A2, c2, rfl, _, _⟩, _⟩ := h1
          clear h2 he
          go_wp2_with (go_at_call 18; refine hs.mono ?_; rintro e' w1 ⟨rfl, hb1⟩)
          · have hneg : szR x e.wt < 0 := by assumption
            go_ret
            exact ⟨ret_int (szR_step_no HK (by rw [HW.out]; omega) hneg).symm, (by repeat (first | exact Below.refl _ _ | refine Below.alloc ?_ (by first | omega | (simp; done) | (simp; omega)) _ | apply Below.drew | apply below_drewN | refine Below.setCell ?_ (by first | omega | (simp; done) | (simp; omega)) _ | refine Below.trans ?_ (Below.mono (by assumption) (by first | omega | (simp; done) | (simp; omega)))))⟩
          · have hpos : 0 ≤ szR x e.wt := by assumption
            go_roundw
            case rel => exact ⟨k + 1, _, by omega, by go_num, rfl, ⟨hpos, szR_le hxx.2⟩, (by repeat (first | exact Below.refl _ _ | refine Below.alloc ?_ (by first | omega | (simp; done) | (simp; omega)) _ | apply Below.drew | apply below_drewN | refine Below.setCell ?_ (by first | omega | (simp; done) | (simp; omega)) _ | refine Below.trans ?_ (Below.mono (by assumption) (by first | omega | (simp; done) | (simp; omega))))), szR_step_yes HK HW.out hpos⟩
            case measure => simp [intOf]; omega
        · have hxp : szR x (Dsc.wts (l.drop k)) = x := by rw [List.drop_of_length_le (by omega)]; exact (szR_yes (by show ((0 : Nat) : Int) ≤ x; omega)).trans (by show x - ((0 : Nat) : Int) = x; omega)
          have HX := Lib.hid hxp
          clear hxp
          go_wp2
          go_ret
          exact ⟨ret_int (by rw [HK.out, HX.out]), (by repeat (first | exact Below.refl _ _ | refine Below.alloc ?_ (by first | omega | (simp; done) | (simp; omega)) _ | apply Below.drew | apply below_drewN | refine Below.setCell ?_ (by first | omega | (simp; done) | (simp; omega)) _ | refine Below.trans ?_ (Below.mono (by assumption) (by first | omega | (simp; done) | (simp; omega)))))⟩
  · go_enter Try.func43, Try.ntmps43
    go_wp2
    go_ret
    exact ⟨ret_int (by rw [szR_no (by omega)]), (by repeat (first | exact Below.refl _ _ | refine Below.alloc ?_ (by first | omega | (simp; done) | (simp; omega)) _ | apply Below.drew | apply below_drewN | refine Below.setCell ?_ (by first | omega | (simp; done) | (simp; omega)) _ | refine Below.trans ?_ (Below.mono (by assumption) (by first | omega | (simp; done) | (simp; omega)))))⟩
end Go.Proofs.Ytjkfkjbakokjeaa
