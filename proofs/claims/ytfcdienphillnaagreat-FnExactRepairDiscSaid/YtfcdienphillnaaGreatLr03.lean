/- The laws' own helpers over discs: sizes. The laws' own helpers over discs: copies. The laws' own helpers over discs: copies of lists, comparison. The laws' own helpers over discs: comparison. -/
import Derived.Test.YtfcdienphillnaaGreatLr02
namespace Go.Proofs.YtfcdienphillnaaGreat
set_option linter.unusedVariables false
set_option linter.unusedSimpArgs false
open Go.RowKit

structure Dsc where
  cyl : Int
  heads : Int
  per : Int
  size : Int
  secs : List Sec
instance : Inhabited Dsc := ⟨⟨0, 0, 0, 0, []⟩⟩
abbrev SecIn (w : World) (v : Value) (l : List Sec) : Prop := RawL Sec.cells 2 w v l ∧ ∀ e ∈ l, e.data.size ≤ maxLen
abbrev SecOwn (B : Nat) (w : World) (v : Value) (l : List Sec) : Prop := OwnL Sec.cells 2 70 B w v l
theorem SecIn.below {w w' : World} {v : Value} {l : List Sec} (h : SecIn w v l) (hb : Below w.heap.size w w') : SecIn w' v l := ⟨h.1.below hb, h.2⟩
def Dsc.ints (d : Dsc) : List Value := [.int .i64 d.cyl, .int .i64 d.heads, .int .i64 d.per, .int .i64 d.size]
/-- discs that came in -/
def DscIn (w : World) (v : Value) (l : List Dsc) : Prop := ∃ A c, v = .slice A l.length c ∧ l.length ≤ maxLen ∧ (l = [] ∨ ∃ b o, A = some ⟨b, o, none⟩ ∧ b < w.heap.size ∧ ∀ (k : Nat) (e : Dsc), l[k]? = some e → ∃ bv, SecIn w bv e.secs ∧ ∀ (j : Nat) (u : Value), (e.ints ++ [bv])[j]? = some u → w.cell? ⟨b, o + k * 5 + j, none⟩ = some u)
theorem DscIn.below {w w' : World} {v : Value} {l : List Dsc} (h : DscIn w v l) (hb : Below w.heap.size w w') : DscIn w' v l := by
  obtain ⟨A, c, rfl, hm, h⟩ := h
  refine ⟨A, c, rfl, hm, ?_⟩
  rcases h with h | ⟨b, o, rfl, hlt, hc⟩
  · exact .inl h
  · exact .inr ⟨b, o, rfl, Nat.lt_of_lt_of_le hlt hb.size, fun k e hk => by
      obtain ⟨bv, h1, h2⟩ := hc k e hk
      exact ⟨bv, h1.below hb, fun j u hu => (hb.cell (p := ⟨b, _, none⟩) hlt).trans (h2 j u hu)⟩⟩
/-- discs that the call has made -/
def DscOwn (B : Nat) (w : World) (v : Value) (l : List Dsc) : Prop := ∃ A c, v = .slice A l.length c ∧ (l = [] ∨ ∃ g, A = some ⟨g, 0, none⟩ ∧ B ≤ g ∧ g < w.heap.size ∧ ∀ (k : Nat) (e : Dsc), l[k]? = some e → ∃ bv, SecOwn B w bv e.secs ∧ ∀ (j : Nat) (u : Value), (e.ints ++ [bv])[j]? = some u → w.cell? ⟨g, k * 5 + j, none⟩ = some u)
theorem DscOwn.below {B : Nat} {w w' : World} {v : Value} {l : List Dsc} (h : DscOwn B w v l) (hb : Below w.heap.size w w') : DscOwn B w' v l := by
  obtain ⟨A, c, rfl, h⟩ := h
  refine ⟨A, c, rfl, ?_⟩
  rcases h with h | ⟨g, rfl, hB, hlt, hc⟩
  · exact .inl h
  · exact .inr ⟨g, rfl, hB, Nat.lt_of_lt_of_le hlt hb.size, fun k e hk => by
      obtain ⟨bv, h1, h2⟩ := hc k e hk
      exact ⟨bv, OwnL.below h1 hb, fun j u hu => (hb.cell (p := ⟨g, _, none⟩) hlt).trans (h2 j u hu)⟩⟩
def Dsc.wt (d : Dsc) : Nat := d.secs.length + Sec.wts d.secs
def Dsc.wts (l : List Dsc) : Nat := (l.map Dsc.wt).foldr (· + ·) 0
theorem Dsc.wts_drop {l : List Dsc} {k : Nat} {e : Dsc} (he : l[k]? = some e) : Dsc.wts (l.drop k) = e.wt + Dsc.wts (l.drop (k + 1)) := by
  obtain ⟨h, rfl⟩ := List.getElem?_eq_some_iff.1 he
  rw [List.drop_eq_getElem_cons h]; rfl
theorem Dsc.wts_le {l : List Dsc} {e : Dsc} (he : e ∈ l) : e.wt ≤ Dsc.wts l := by
  induction l with
  | nil => cases he
  | cons a l ih =>
    show _ ≤ a.wt + Dsc.wts l
    cases List.mem_cons.1 he with
    | inl h => subst h; exact Nat.le_add_right _ _
    | inr h => exact Nat.le_trans (ih h) (Nat.le_add_left _ _)
abbrev dscV (d : Dsc) (bv : Value) : Value := .agg #[.int .i64 d.cyl, .int .i64 d.heads, .int .i64 d.per, .int .i64 d.size, bv]
set_option maxHeartbeats 1000000 in
theorem szDsc (d : Dsc) (bv : Value) (x0 : Int) (w : World) (hr : SecIn w bv d.secs) (hx : 0 ≤ x0 ∧ x0 ≤ 1048576) :
    Calls Tryz.prog 9 #[dscV d bv, .int .i64 x0] w fun e w' => e = .returned (.int .i64 (szR x0 d.wt)) ∧ Below w.heap.size w w' := by
  have hs := szSectorS d.secs bv x0 (w.alloc (.cells #[.int .i64 d.cyl, .int .i64 d.heads, .int .i64 d.per, .int .i64 d.size, bv] 29)) (hr.1.below (Below.alloc (Below.refl _ _) (Nat.le_refl _) _)) hr.2 hx
  have hs' : Calls Tryz.prog 40 #[bv, .int .i64 x0] (w.alloc (.cells #[.int .i64 d.cyl, .int .i64 d.heads, .int .i64 d.per, .int .i64 d.size, bv] 29)) fun e w' => e = .returned (.int .i64 (szR x0 d.wt)) ∧ Below (w.alloc (.cells #[.int .i64 d.cyl, .int .i64 d.heads, .int .i64 d.per, .int .i64 d.size, bv] 29)).heap.size (w.alloc (.cells #[.int .i64 d.cyl, .int .i64 d.heads, .int .i64 d.per, .int .i64 d.size, bv] 29)) w' := hs
  clear hs
  have hne : szR x0 d.wt < 0 → szR x0 d.wt = -1 := fun h => szR_no (szR_neg.1 h)
  obtain ⟨⟨A, c, rfl, _, _⟩, _⟩ := hr
  generalize szR x0 d.wt = y at *
  go_enter Tryz.func9, Tryz.ntmps9
  go_wp2_with (go_at_call 40; refine hs'.mono ?_; rintro e w1 ⟨rfl, hb1⟩)
  · go_ret
    exact ⟨ret_int (hne (by assumption)).symm, (by repeat (first | exact Below.refl _ _ | refine Below.alloc ?_ (by first | omega | (simp; done) | (simp; omega)) _ | apply Below.drew | apply below_drewN | refine Below.setCell ?_ (by first | omega | (simp; done) | (simp; omega)) _ | refine Below.trans ?_ (Below.mono (by assumption) (by first | omega | (simp; done) | (simp; omega)))))⟩
  · go_ret
    exact ⟨rfl, (by repeat (first | exact Below.refl _ _ | refine Below.alloc ?_ (by first | omega | (simp; done) | (simp; omega)) _ | apply Below.drew | apply below_drewN | refine Below.setCell ?_ (by first | omega | (simp; done) | (simp; omega)) _ | refine Below.trans ?_ (Below.mono (by assumption) (by first | omega | (simp; done) | (simp; omega)))))⟩
set_option maxHeartbeats 2000000 in
theorem szDscS (l : List Dsc) (v : Value) (x0 : Int) (w : World) (hr : DscIn w v l) (hx : 0 ≤ x0 ∧ x0 ≤ 1048576) :
    Calls Tryz.prog 37 #[v, .int .i64 x0] w fun e w' => e = .returned (.int .i64 (szR x0 (l.length + Dsc.wts l))) ∧ Below w.heap.size w w' := by
  obtain ⟨hx0, hx1⟩ := hx
  obtain ⟨A, c, rfl, hmax, hr⟩ := hr
  unfold maxLen at hmax
  by_cases hlen : (l.length : Int) ≤ x0
  · rcases hr with rfl | ⟨b, o, rfl, hlt, hc⟩
    · have HX : Hid (szR x0 0 = x0) := Lib.hid (by rw [szR_yes (by omega)]; omega)
      go_enter Tryz.func37, Tryz.ntmps37
      go_wp2
      refine wp_loop_once ?_
      go_wp2
      go_ret
      exact ⟨ret_int HX.out.symm, (by repeat (first | exact Below.refl _ _ | refine Below.alloc ?_ (by first | omega | (simp; done) | (simp; omega)) _ | apply Below.drew | apply below_drewN | refine Below.setCell ?_ (by first | omega | (simp; done) | (simp; omega)) _ | refine Below.trans ?_ (Below.mono (by assumption) (by first | omega | (simp; done) | (simp; omega)))))⟩
    · have HC := Lib.hid hc
      clear hc
      go_enter Tryz.func37, Tryz.ntmps37
      go_wp2
      go_loopw [5, 1] (fun i left wr => ∃ (k : Nat) (x : Int), k ≤ l.length ∧ i = .int .i64 k ∧ left = .int .i64 x ∧ (0 ≤ x ∧ x ≤ 1048576) ∧ Below w.heap.size w wr ∧ Hid (szR x0 (l.length + Dsc.wts l) = szR x (Dsc.wts (l.drop k)))) (fun i _ _ => l.length - (intOf i).toNat)
      case atStart => exact ⟨0, _, by omega, rfl, rfl, by omega, (by repeat (first | exact Below.refl _ _ | refine Below.alloc ?_ (by first | omega | (simp; done) | (simp; omega)) _ | apply Below.drew | apply below_drewN | refine Below.setCell ?_ (by first | omega | (simp; done) | (simp; omega)) _ | refine Below.trans ?_ (Below.mono (by assumption) (by first | omega | (simp; done) | (simp; omega))))), Lib.hid (by simp only [List.drop_zero]; unfold szR; split <;> split <;> omega)⟩
      case round =>
        obtain ⟨k, x, hk, rfl, rfl, hxx, hb, HK⟩ := hrel
        by_cases hltk : k < l.length
        · obtain ⟨e, he⟩ : ∃ e, l[k]? = some e := ⟨l[k]'(by omega), List.getElem?_eq_getElem (by omega)⟩
          have HW := Lib.hid (Dsc.wts_drop he)
          obtain ⟨bv, h1, h2⟩ := HC.out k e he
          have p0 := (hb.cell (p := ⟨b, _, none⟩) hlt).trans (h2 0 _ rfl)
          have p1 := (hb.cell (p := ⟨b, _, none⟩) hlt).trans (h2 1 _ rfl)
          have p2 := (hb.cell (p := ⟨b, _, none⟩) hlt).trans (h2 2 _ rfl)
          have p3 := (hb.cell (p := ⟨b, _, none⟩) hlt).trans (h2 3 _ rfl)
          have p4 := (hb.cell (p := ⟨b, _, none⟩) hlt).trans (h2 4 _ rfl)
          simp only [Nat.add_zero] at p0
          have hz : w.heap.size ≤ wr.heap.size := hb.size
          have hs := szDsc e bv x wr (h1.below hb) hxx
          obtain ⟨⟨A2, c2, rfl, _, _⟩, _⟩ := h1
          clear h2 he
          go_wp2_with (go_at_call 9; refine hs.mono ?_; rintro e' w1 ⟨rfl, hb1⟩)
          · have hneg : szR x e.wt < 0 := by assumption
            go_ret
            exact ⟨ret_int (szR_step_no HK (by rw [HW.out]; omega) hneg).symm, (by repeat (first | exact Below.refl _ _ | refine Below.alloc ?_ (by first | omega | (simp; done) | (simp; omega)) _ | apply Below.drew | apply below_drewN | refine Below.setCell ?_ (by first | omega | (simp; done) | (simp; omega)) _ | refine Below.trans ?_ (Below.mono (by assumption) (by first | omega | (simp; done) | (simp; omega)))))⟩
          · have hpos : 0 ≤ szR x e.wt := by assumption
            go_roundw
            case rel => exact ⟨k + 1, _, by omega, by go_num, rfl, ⟨hpos, szR_le hxx.2⟩, (by repeat (first | exact Below.refl _ _ | refine Below.alloc ?_ (by first | omega | (simp; done) | (simp; omega)) _ | apply Below.drew | apply below_drewN | refine Below.setCell ?_ (by first | omega | (simp; done) | (simp; omega)) _ | refine Below.trans ?_ (Below.mono (by assumption) (by first | omega | (simp; done) | (simp; omega))))), szR_step_yes HK HW.out hpos⟩
            case measure => simp [intOf]; omega
        · have hxp : szR x (Dsc.wts (l.drop k)) = x := by rw [List.drop_of_length_le (by omega)]; exact (szR_yes (by show ((0 : Nat) : Int) ≤ x; omega)).trans (by show x - ((0 : Nat) : Int) = x; omega)
          have HX := Lib.hid hxp
          clear hxp
          go_wp2
          go_ret
          exact ⟨ret_int (by rw [HK.out, HX.out]), (by repeat (first | exact Below.refl _ _ | refine Below.alloc ?_ (by first | omega | (simp; done) | (simp; omega)) _ | apply Below.drew | apply below_drewN | refine Below.setCell ?_ (by first | omega | (simp; done) | (simp; omega)) _ | refine Below.trans ?_ (Below.mono (by assumption) (by first | omega | (simp; done) | (simp; omega)))))⟩
  · go_enter Tryz.func37, Tryz.ntmps37
    go_wp2
    go_ret
    exact ⟨ret_int (by rw [szR_no (by omega)]), (by repeat (first | exact Below.refl _ _ | refine Below.alloc ?_ (by first | omega | (simp; done) | (simp; omega)) _ | apply Below.drew | apply below_drewN | refine Below.setCell ?_ (by first | omega | (simp; done) | (simp; omega)) _ | refine Below.trans ?_ (Below.mono (by assumption) (by first | omega | (simp; done) | (simp; omega)))))⟩
end Go.Proofs.YtfcdienphillnaaGreat
namespace Go.Proofs.YtfcdienphillnaaGreat
set_option linter.unusedVariables false
set_option linter.unusedSimpArgs false
open Go.RowKit
def dpc (p : Dsc × Value) : List Value := [.int .i64 p.1.cyl, .int .i64 p.1.heads, .int .i64 p.1.per, .int .i64 p.1.size, p.2]
theorem dpc_len (p : Dsc × Value) : (dpc p).length = 5 := rfl
theorem dpc_info : (Tryz.prog.info? 43).map (fun i => (i.zero, i.size, i.bytes)) = some (some (.agg #[.int .i64 0, .int .i64 0, .int .i64 0, .int .i64 0, .slice none 0 0]), 5, 56) := by kernel_rfl
theorem far_set {α : Type} {f : α → List Value} {z : Nat} {e : TypeId} {B g o : Nat} {w : World} {v u : Value} {l : List α} (h : OwnL f z e B w v l) (hg : g < B) : OwnL f z e B (w.setCell ⟨g, o, none⟩ u) v l := by
  refine h.kept (gset (World.grownBy.refl w _) o u) ?_
  cases hv : v.ownBlock with
  | none => exact .inl rfl
  | some q => exact .inr (by intro he; have := (World.ownsRow.lt h q hv).1; injection he with he; omega)
abbrev set5 (w : World) (b o : Nat) (u0 u1 u2 u3 u4 : Value) : World := ((((w.setCell ⟨b, o, none⟩ u0).setCell ⟨b, o + 1, none⟩ u1).setCell ⟨b, o + 2, none⟩ u2).setCell ⟨b, o + 3, none⟩ u3).setCell ⟨b, o + 4, none⟩ u4
theorem far_set5 {α : Type} {f : α → List Value} {z : Nat} {e : TypeId} {B g o : Nat} {w : World} {v u0 u1 u2 u3 u4 : Value} {l : List α} (h : OwnL f z e B w v l) (hg : g < B) : OwnL f z e B (set5 w g o u0 u1 u2 u3 u4) v l :=
  far_set (far_set (far_set (far_set (far_set h hg) hg) hg) hg) hg
theorem ne_off {b x y : Nat} (h : x ≠ y) : (⟨b, x, none⟩ : Addr) ≠ ⟨b, y, none⟩ := fun e => by injection e with _ e2 _; exact h e2
theorem set5_at {w : World} {b : Nat} {u0 u1 u2 u3 u4 t0 t1 t2 t3 t4 : Value} (h0 : w.cell? ⟨b, 0, none⟩ = some t0) (h1 : w.cell? ⟨b, 1, none⟩ = some t1) (h2 : w.cell? ⟨b, 2, none⟩ = some t2) (h3 : w.cell? ⟨b, 3, none⟩ = some t3) (h4 : w.cell? ⟨b, 4, none⟩ = some t4) :
    (set5 w b 0 u0 u1 u2 u3 u4).cell? ⟨b, 0, none⟩ = some u0 ∧ (set5 w b 0 u0 u1 u2 u3 u4).cell? ⟨b, 1, none⟩ = some u1 ∧ (set5 w b 0 u0 u1 u2 u3 u4).cell? ⟨b, 2, none⟩ = some u2 ∧ (set5 w b 0 u0 u1 u2 u3 u4).cell? ⟨b, 3, none⟩ = some u3 ∧ (set5 w b 0 u0 u1 u2 u3 u4).cell? ⟨b, 4, none⟩ = some u4 := by
  have O := fun (W : World) (x y : Nat) (u : Value) (h : x ≠ y) => World.cell?_setCell_other W _ _ u (ne_off (b := b) h)
  refine ⟨?_, ?_, ?_, ?_, ?_⟩
  · rw [O _ _ _ _ (by omega), O _ _ _ _ (by omega), O _ _ _ _ (by omega), O _ _ _ _ (by omega)]; exact World.cell?_setCell_same _ _ _ h0
  · rw [O _ _ _ _ (by omega), O _ _ _ _ (by omega), O _ _ _ _ (by omega)]; exact World.cell?_setCell_same _ _ _ (by rw [O _ _ _ _ (by omega)]; exact h1)
  · rw [O _ _ _ _ (by omega), O _ _ _ _ (by omega)]; exact World.cell?_setCell_same _ _ _ (by rw [O _ _ _ _ (by omega), O _ _ _ _ (by omega)]; exact h2)
  · rw [O _ _ _ _ (by omega)]; exact World.cell?_setCell_same _ _ _ (by rw [O _ _ _ _ (by omega), O _ _ _ _ (by omega), O _ _ _ _ (by omega)]; exact h3)
  · exact World.cell?_setCell_same _ _ _ (by rw [O _ _ _ _ (by omega), O _ _ _ _ (by omega), O _ _ _ _ (by omega), O _ _ _ _ (by omega)]; exact h4)
set_option maxHeartbeats 2000000 in
theorem toDsc (d : Dsc) (bv : Value) (w : World) (h : SecIn w bv d.secs) (hn : d.secs.length ≤ 1048576) :
    Calls Tryz.prog 13 #[dscV d bv] w fun e w' => ∃ A c, e = .returned (dscV d (.slice A d.secs.length c)) ∧ SecOwn w.heap.size w' (.slice A d.secs.length c) d.secs ∧ Below w.heap.size w w' := by
  have HH := Lib.hid h
  obtain ⟨⟨A, c, rfl, _, _⟩, _⟩ := h
  go_enter Tryz.func13, Tryz.ntmps13
  go_wp2_with (fail)
  refine (toSectorS d.secs _ _ ((HH.out.below (by repeat (first | exact Below.refl _ _ | refine Below.alloc ?_ (by first | omega | (simp; done) | (simp; omega)) _ | apply Below.drew | apply below_drewN | refine Below.setCell ?_ (by first | omega | (simp; done) | (simp; omega)) _ | refine Below.trans ?_ (Below.mono (by assumption) (by first | omega | (simp; done) | (simp; omega)))))).1) hn).mono ?_; rintro e w1 ⟨v1, rfl, o1, hb1⟩
  obtain ⟨hc1, hf1⟩ := bcell hb1
  have hz1 : w.heap.size + 3 ≤ w1.heap.size := by have := hb1.size; (try simp at this); omega
  have o2 : SecOwn (w.heap.size + 3) w1 v1 d.secs := by simpa using o1
  clear o1
  obtain ⟨A1, c1, rfl, _⟩ := OwnL.shape o2
  go_wp2
  have q0 : w1.cell? ⟨w.heap.size + 1, 0, none⟩ = some (.int .i64 0) := by rw [hc1 (w.heap.size + 1) 0 (by simp)]; simp [go_sem]
  have q1 : w1.cell? ⟨w.heap.size + 1, 1, none⟩ = some (.int .i64 0) := by rw [hc1 (w.heap.size + 1) 1 (by simp)]; simp [go_sem]
  have q2 : w1.cell? ⟨w.heap.size + 1, 2, none⟩ = some (.int .i64 0) := by rw [hc1 (w.heap.size + 1) 2 (by simp)]; simp [go_sem]
  have q3 : w1.cell? ⟨w.heap.size + 1, 3, none⟩ = some (.int .i64 0) := by rw [hc1 (w.heap.size + 1) 3 (by simp)]; simp [go_sem]
  have q4 : w1.cell? ⟨w.heap.size + 1, 4, none⟩ = some (.slice none 0 0) := by rw [hc1 (w.heap.size + 1) 4 (by simp)]; simp [go_sem]
  have ne1 : ∀ x y : Nat, (⟨w.heap.size + 1 + 1, x, none⟩ : Addr) ≠ ⟨w.heap.size + 1, y, none⟩ := fun x y e => by injection e with e1; omega
  have P := fun (y : Nat) (t : Value) (hq : w1.cell? ⟨w.heap.size + 1, y, none⟩ = some t) => (World.cell?_setCell_other w1 _ _ (.slice A1 d.secs.length c1) (ne1 4 y)).trans hq
  obtain ⟨s0, s1, s2, s3, s4⟩ := set5_at (u0 := .int .i64 d.cyl) (u1 := .int .i64 d.heads) (u2 := .int .i64 d.per) (u3 := .int .i64 d.size) (u4 := .slice A1 d.secs.length c1) (P 0 _ q0) (P 1 _ q1) (P 2 _ q2) (P 3 _ q3) (P 4 _ q4)
  have o3 := far_set5 (g := w.heap.size + 1) (o := 0) (u0 := .int .i64 d.cyl) (u1 := .int .i64 d.heads) (u2 := .int .i64 d.per) (u3 := .int .i64 d.size) (u4 := .slice A1 d.secs.length c1) (far_set (g := w.heap.size + 1 + 1) (o := 4) (u := .slice A1 d.secs.length c1) o2 (by omega)) (by omega)
  have hB1 : Below w.heap.size w w1 := (by repeat (first | exact Below.refl _ _ | refine Below.alloc ?_ (by first | omega | (simp; done) | (simp; omega)) _ | apply Below.drew | apply below_drewN | refine Below.setCell ?_ (by first | omega | (simp; done) | (simp; omega)) _ | refine Below.trans ?_ (Below.mono (by assumption) (by first | omega | (simp; done) | (simp; omega)))))
  have hle : w.heap.size ≤ w.heap.size + 1 := by omega
  have hle2 : w.heap.size ≤ w.heap.size + 1 + 1 := by omega
  have hB : Below w.heap.size w (set5 (w1.setCell ⟨w.heap.size + 1 + 1, 4, none⟩ (.slice A1 d.secs.length c1)) (w.heap.size + 1) 0 (.int .i64 d.cyl) (.int .i64 d.heads) (.int .i64 d.per) (.int .i64 d.size) (.slice A1 d.secs.length c1)) := Below.setCell (Below.setCell (Below.setCell (Below.setCell (Below.setCell (Below.setCell hB1 hle2 _) hle _) hle _) hle _) hle _) hle _
  show bodyPost _ _ _ _ _ (set5 (w1.setCell ⟨w.heap.size + 1 + 1, 4, none⟩ (.slice A1 d.secs.length c1)) (w.heap.size + 1) 0 (.int .i64 d.cyl) (.int .i64 d.heads) (.int .i64 d.per) (.int .i64 d.size) (.slice A1 d.secs.length c1))
  clear P q0 q1 q2 q3 q4 hc1 hf1 o2 hb1
  generalize (set5 (w1.setCell ⟨w.heap.size + 1 + 1, 4, none⟩ (.slice A1 d.secs.length c1)) (w.heap.size + 1) 0 (.int .i64 d.cyl) (.int .i64 d.heads) (.int .i64 d.per) (.int .i64 d.size) (.slice A1 d.secs.length c1)) = W at *
  refine bodyPost_ret (v := dscV d (.slice A1 d.secs.length c1)) (by simp [results, Tryz.results13, go_sem, s0, s1, s2, s3, s4]; try done) rfl ⟨A1, c1, rfl, OwnL.base o3 (by omega), hB⟩
end Go.Proofs.YtfcdienphillnaaGreat
namespace Go.Proofs.YtfcdienphillnaaGreat
set_option linter.unusedVariables false
set_option linter.unusedSimpArgs false
open Go.RowKit
theorem own_put5 {α : Type} {f : α → List Value} {e : TypeId} {B g n c : Nat} {w : World} {xs : List Value} {z o : Nat} (h : w.ownsRow B e z (.slice (some ⟨g, 0, none⟩) n c) n xs) (a b d d' d'' : Value) (hl : o + 4 < xs.length) :
    (((((w.setCell ⟨g, o, none⟩ a).setCell ⟨g, o + 1, none⟩ b).setCell ⟨g, o + 2, none⟩ d).setCell ⟨g, o + 3, none⟩ d').setCell ⟨g, o + 4, none⟩ d'').ownsRow B e z (.slice (some ⟨g, 0, none⟩) n c) n (putAt xs o [a, b, d, d', d'']) :=
  own_next (cs := [a, b, d, d']) (own_put4 h a b d d' (by omega)) d'' hl
def dz : Dsc × Value := (⟨0, 0, 0, 0, []⟩, .slice none 0 0)
set_option maxHeartbeats 4000000 in
theorem toDscS (l : List Dsc) (v : Value) (w : World) (hr : DscIn w v l) (hn : l.length ≤ 1048576) (hb : ∀ e ∈ l, e.secs.length ≤ 1048576) :
    Calls Tryz.prog 45 #[v] w fun e w' => ∃ v', e = .returned v' ∧ DscOwn w.heap.size w' v' l ∧ Below w.heap.size w w' := by
  obtain ⟨i0, hi, hz0, hz1, hz2⟩ := info_parts dpc_info
  obtain ⟨A, c, rfl, hmax, hr⟩ := hr
  rcases hr with rfl | ⟨b, o, rfl, hlt, hc⟩
  · go_enter Tryz.func45, Tryz.ntmps45
    go_wp2_with (at_make; refine wpList_make_full _ rfl _ _ _ rfl w.heap.size 43 i0 (.agg #[.int .i64 0, .int .i64 0, .int .i64 0, .int .i64 0, .slice none 0 0]) 5 Tryz.underlying37 hi hz0 hz1 .i64 .i64 _ _ 0 rfl rfl rfl rfl (by omega) (by unfold maxLen; omega) (Nat.le_refl _) ?_; intro w1 hown hgrow)
    refine wp_loop_once ?_
    go_wp2
    go_ret
    exact ⟨_, rfl, ⟨_, _, rfl, .inl rfl⟩, (Below.refl _ _).grown hgrow (Nat.le_refl _) (by simp)⟩
  · have HC := Lib.hid hc
    clear hc
    go_enter Tryz.func45, Tryz.ntmps45
    go_wp2_with (at_make; refine wpList_make_full _ rfl _ _ _ rfl w.heap.size 43 i0 (.agg #[.int .i64 0, .int .i64 0, .int .i64 0, .int .i64 0, .slice none 0 0]) 5 Tryz.underlying37 hi hz0 hz1 .i64 .i64 _ _ l.length rfl rfl rfl rfl (by rw [hz2]; omega) (by unfold maxLen; omega) (Nat.le_refl _) ?_; intro w1 hown hgrow)
    have hb0 : Below w.heap.size w w1 := (Below.refl _ _).grown hgrow (Nat.le_refl _) (by simp)
    rw [made_flat (f := dpc) dpc_len (by omega) dz (Value.agg #[.int .i64 0, .int .i64 0, .int .i64 0, .int .i64 0, .slice none 0 0]).cells rfl] at hown
    clear hgrow
    go_loopw [4] (fun i wr => ∃ (k : Nat) (pl : List (Dsc × Value)), k ≤ l.length ∧ i = .int .i64 k ∧ pl.length = k ∧ Below w.heap.size w wr ∧ (∀ (j : Nat) (e : Dsc), j < k → l[j]? = some e → ∃ bv, pl[j]? = some (e, bv) ∧ SecOwn (w.heap.size + 1) wr bv e.secs) ∧ wr.ownsRow w.heap.size 43 5 (.slice (some ⟨w.heap.size, 0, none⟩) l.length l.length) l.length (flat dpc (pl ++ List.replicate (l.length - k) dz))) (fun i _ => l.length - (intOf i).toNat)
    case atStart => exact ⟨0, [], by omega, rfl, rfl, hb0, fun j e hj => by omega, by simpa using hown⟩
    case round =>
      obtain ⟨k, pl, hk, rfl, hpl, hbw, hin, how⟩ := hrel
      clear hown hb0
      by_cases hltk : k < l.length
      · obtain ⟨e, he⟩ : ∃ e, l[k]? = some e := ⟨l[k]'(by omega), List.getElem?_eq_getElem (by omega)⟩
        have hz : w.heap.size ≤ wr.heap.size := hbw.size
        have hg : w.heap.size < wr.heap.size := (how.lt _ rfl).2
        obtain ⟨bv, h1, h2⟩ := HC.out k e he
        have p0 := (hbw.cell (p := ⟨b, _, none⟩) hlt).trans (h2 0 _ rfl)
        have p1 := (hbw.cell (p := ⟨b, _, none⟩) hlt).trans (h2 1 _ rfl)
        have p2 := (hbw.cell (p := ⟨b, _, none⟩) hlt).trans (h2 2 _ rfl)
        have p3 := (hbw.cell (p := ⟨b, _, none⟩) hlt).trans (h2 3 _ rfl)
        have p4 := (hbw.cell (p := ⟨b, _, none⟩) hlt).trans (h2 4 _ rfl)
        simp only [Nat.add_zero] at p0
        have ht := toDsc e bv wr (h1.below hbw) (hb e (List.mem_of_getElem? he))
        obtain ⟨⟨A2, c2, rfl, _, _⟩, _⟩ := h1
        have HO := Lib.hid how
        have HIN := Lib.hid hin
        have HE := Lib.hid he
        have hgk : (pl ++ List.replicate (l.length - k) dz)[k]? = some dz := by
          rw [List.getElem?_append_right (by omega), hpl, Nat.sub_self, List.getElem?_replicate, if_pos (by omega)]
        have HGK := Lib.hid hgk
        clear how hin h2 he hgk
        go_wp2_with (fail)
        refine ht.mono ?_; rintro e' w1 ⟨A3, c3, rfl, o3, hb1⟩
        have HO1 := Lib.hid (World.ownsRow.kept HO.out (grown_of_below hb1 none) (by simp [Value.ownBlock]))
        have Q := fun (j : Nat) (hj : j < 5) => (HO1.out.cellAt (k * 5 + j) (by omega)).trans (flat_get dpc_len HGK.out (j := j) hj)
        have q0 : w1.cell? ⟨w.heap.size, k * 5, none⟩ = some (.int .i64 0) := Q 0 (by omega)
        have q1 : w1.cell? ⟨w.heap.size, k * 5 + 1, none⟩ = some (.int .i64 0) := Q 1 (by omega)
        have q2 : w1.cell? ⟨w.heap.size, k * 5 + 2, none⟩ = some (.int .i64 0) := Q 2 (by omega)
        have q3 : w1.cell? ⟨w.heap.size, k * 5 + 3, none⟩ = some (.int .i64 0) := Q 3 (by omega)
        have q4 : w1.cell? ⟨w.heap.size, k * 5 + 4, none⟩ = some (.slice none 0 0) := Q 4 (by omega)
        have z0 := fun j => HO1.out.frozenAt j
        have hz1' := hb1.size
        have hfl := flat_len dpc_len (pl ++ List.replicate (l.length - k) dz)
        have hll : (pl ++ List.replicate (l.length - k) dz).length = l.length := by simp; omega
        have HO2 := Lib.hid (own_put5 (α := Dsc × Value) (f := dpc) (o := k * 5) HO1.out (.int .i64 e.cyl) (.int .i64 e.heads) (.int .i64 e.per) (.int .i64 e.size) (.slice A3 e.secs.length c3) (by rw [hfl, hll]; omega))
        have hput := flat_put dpc_len (pl ++ List.replicate (l.length - k) dz) k ((e, .slice A3 e.secs.length c3) : Dsc × Value) (by rw [hll]; exact hltk)
        have hset : (pl ++ List.replicate (l.length - k) dz).set k ((e, .slice A3 e.secs.length c3) : Dsc × Value) = (pl ++ [(e, .slice A3 e.secs.length c3)]) ++ List.replicate (l.length - (k + 1)) dz := by
          rw [List.set_append_right _ _ (by omega), hpl, Nat.sub_self, show l.length - k = (l.length - (k + 1)) + 1 by omega, List.replicate_succ, List.set_cons_zero, List.append_assoc]; rfl
        have HP := Lib.hid (hput.trans (congrArg (flat dpc) hset))
        have HNEW : Hid (∀ (j : Nat) (e'' : Dsc), j < k + 1 → l[j]? = some e'' → ∃ bv, (pl ++ [(e, .slice A3 e.secs.length c3)])[j]? = some (e'', bv) ∧ SecOwn (w.heap.size + 1) (set5 w1 w.heap.size (k * 5) (.int .i64 e.cyl) (.int .i64 e.heads) (.int .i64 e.per) (.int .i64 e.size) (.slice A3 e.secs.length c3)) bv e''.secs) := Lib.hid (fun j e'' hj hl => by
          by_cases hjk : j < k
          · obtain ⟨bv, h1, h2⟩ := HIN.out j e'' hjk hl
            exact ⟨bv, by rw [List.getElem?_append_left (by omega)]; exact h1, far_set5 (OwnL.below h2 hb1) (by omega)⟩
          · obtain rfl : j = k := by omega
            have hee := HE.out
            rw [hl] at hee
            obtain rfl : e'' = e := by simpa using hee
            exact ⟨_, by rw [List.getElem?_append_right (by omega), hpl, Nat.sub_self]; rfl, far_set5 (OwnL.base o3 (by omega)) (by omega)⟩)
        have hle : w.heap.size ≤ w.heap.size := Nat.le_refl _
        have HB := Lib.hid (Below.setCell (Below.setCell (Below.setCell (Below.setCell (Below.setCell (hbw.trans (hb1.mono hz)) (p := ⟨w.heap.size, k * 5, none⟩) hle (.int .i64 e.cyl)) (p := ⟨w.heap.size, k * 5 + 1, none⟩) hle (.int .i64 e.heads)) (p := ⟨w.heap.size, k * 5 + 2, none⟩) hle (.int .i64 e.per)) (p := ⟨w.heap.size, k * 5 + 3, none⟩) hle (.int .i64 e.size)) (p := ⟨w.heap.size, k * 5 + 4, none⟩) hle (.slice A3 e.secs.length c3))
        clear hfl hll hput hset ht Q
        go_wp2
        go_roundw
        case rel => exact ⟨k + 1, pl ++ [(e, .slice A3 e.secs.length c3)], by omega, by go_num, by simp; omega, HB.out, HNEW.out, by rw [← HP.out]; exact HO2.out⟩
        case measure => simp [intOf]; omega
      · go_wp2
        go_ret
        refine ⟨_, rfl, ⟨_, _, rfl, .inr ⟨w.heap.size, rfl, Nat.le_refl _, (how.lt _ rfl).2, fun j e hj => ?_⟩⟩, hbw⟩
        obtain ⟨bv, h1, h2⟩ := hin j e (by have := (List.getElem?_eq_some_iff.1 hj).1; omega) hj
        have hjl := (List.getElem?_eq_some_iff.1 hj).1
        have hgj : (pl ++ List.replicate (l.length - k) dz)[j]? = some (e, bv) := by rw [List.getElem?_append_left (by omega)]; exact h1
        refine ⟨bv, OwnL.base h2 (by omega), fun i u hu => ?_⟩
        have hi5 : i < 5 := by have := (List.getElem?_eq_some_iff.1 hu).1; simpa [Dsc.ints] using this
        exact (how.cellAt (j * 5 + i) (by omega)).trans ((flat_get dpc_len hgj (j := i) hi5).trans hu)
end Go.Proofs.YtfcdienphillnaaGreat
namespace Go.Proofs.YtfcdienphillnaaGreat
set_option linter.unusedVariables false
set_option linter.unusedSimpArgs false
open Go.RowKit
set_option maxHeartbeats 2000000 in
theorem eqDsc (d : Dsc) (va vb : Value) (Ba Bb : Nat) (w : World) (ha : SecOwn Ba w va d.secs) (hb : SecOwn Bb w vb d.secs) (hn : d.secs.length ≤ 8388608) :
    Calls Tryz.prog 17 #[dscV d va, dscV d vb] w fun e w' => e = .returned (.bool true) ∧ Below w.heap.size w w' := by
  have hs := fun w' (h : Below w.heap.size w w') => eqSectorS d.secs va vb Ba Bb w' (OwnL.below ha h) (OwnL.below hb h) hn
  obtain ⟨A, c, rfl, _⟩ := OwnL.shape ha
  obtain ⟨A', c', rfl, _⟩ := OwnL.shape hb
  have HS := Lib.hid hs
  clear hs ha hb
  go_enter Tryz.func17, Tryz.ntmps17
  go_wp2_with (fail)
  refine (HS.out _ (by repeat (first | exact Below.refl _ _ | refine Below.alloc ?_ (by first | omega | (simp; done) | (simp; omega)) _ | apply Below.drew | apply below_drewN | refine Below.setCell ?_ (by first | omega | (simp; done) | (simp; omega)) _ | refine Below.trans ?_ (Below.mono (by assumption) (by first | omega | (simp; done) | (simp; omega)))))).mono ?_; rintro e w1 ⟨rfl, hb1⟩
  go_wp2
  go_ret
  exact ⟨rfl, (by repeat (first | exact Below.refl _ _ | refine Below.alloc ?_ (by first | omega | (simp; done) | (simp; omega)) _ | apply Below.drew | apply below_drewN | refine Below.setCell ?_ (by first | omega | (simp; done) | (simp; omega)) _ | refine Below.trans ?_ (Below.mono (by assumption) (by first | omega | (simp; done) | (simp; omega)))))⟩
set_option maxHeartbeats 2000000 in
theorem eqDscS (l : List Dsc) (va vb : Value) (Ba Bb : Nat) (w : World) (ha : DscOwn Ba w va l) (hb0 : DscOwn Bb w vb l) (hn : l.length ≤ 8388608) (hbl : ∀ e ∈ l, e.secs.length ≤ 8388608) :
    Calls Tryz.prog 54 #[va, vb] w fun e w' => e = .returned (.bool true) ∧ Below w.heap.size w w' := by
  obtain ⟨A, c, rfl, hA⟩ := ha
  obtain ⟨A', c', rfl, hA'⟩ := hb0
  by_cases hl0 : l = []
  · subst hl0
    go_enter Tryz.func54, Tryz.ntmps54
    go_wp2
    refine wp_loop_once ?_
    go_wp2
    go_ret
    exact ⟨rfl, Below.refl _ _⟩
  · obtain ⟨ga, rfl, _, hga, hca⟩ := hA.resolve_left hl0
    obtain ⟨gb, rfl, _, hgb, hcb⟩ := hA'.resolve_left hl0
    have HCA := Lib.hid hca
    have HCB := Lib.hid hcb
    clear hA hA' hca hcb
    go_enter Tryz.func54, Tryz.ntmps54
    go_wp2
    go_loopw [5] (fun i wr => ∃ k : Nat, k ≤ l.length ∧ i = .int .i64 k ∧ Below w.heap.size w wr) (fun i _ => l.length - (intOf i).toNat)
    case atStart => exact ⟨0, by omega, rfl, Below.refl _ _⟩
    case round =>
      obtain ⟨k, hk, rfl, hb⟩ := hrel
      by_cases hltk : k < l.length
      · obtain ⟨e, he⟩ : ∃ e, l[k]? = some e := ⟨l[k]'(by omega), List.getElem?_eq_getElem (by omega)⟩
        have hz : w.heap.size ≤ wr.heap.size := hb.size
        obtain ⟨bva, a1, a2⟩ := HCA.out k e he
        obtain ⟨bvb, b1, b2⟩ := HCB.out k e he
        have RA := fun (j : Nat) (u : Value) (hu : (e.ints ++ [bva])[j]? = some u) (x : Wb wr) => Wb.cell (b := ga) (o := k * 5 + j) ((hb.cell (p := ⟨ga, _, none⟩) hga).trans (a2 j u hu)) x
        have RB := fun (j : Nat) (u : Value) (hu : (e.ints ++ [bvb])[j]? = some u) (x : Wb wr) => Wb.cell (b := gb) (o := k * 5 + j) ((hb.cell (p := ⟨gb, _, none⟩) hgb).trans (b2 j u hu)) x
        have r0 : ∀ x : Wb wr, x.1.cell? ⟨ga, k * 5, none⟩ = some (.int .i64 e.cyl) := RA 0 _ rfl
        have r1 := RA 1 _ rfl
        have r2 := RA 2 _ rfl
        have r3 := RA 3 _ rfl
        have r4 := RA 4 _ rfl
        have s0 : ∀ x : Wb wr, x.1.cell? ⟨gb, k * 5, none⟩ = some (.int .i64 e.cyl) := RB 0 _ rfl
        have s1 := RB 1 _ rfl
        have s2 := RB 2 _ rfl
        have s3 := RB 3 _ rfl
        have s4 := RB 4 _ rfl
        have HEQ : Hid (∀ x : Wb wr, Calls Tryz.prog 17 #[dscV e bva, dscV e bvb] x.1 fun e w' => e = .returned (.bool true) ∧ Below x.1.heap.size x.1 w') := Lib.hid (fun x => eqDsc e bva bvb Ba Bb x.1 (OwnL.below (OwnL.below a1 hb) x.2) (OwnL.below (OwnL.below b1 hb) x.2) (hbl e (List.mem_of_getElem? he)))
        obtain ⟨A2, c2, rfl, _⟩ := OwnL.shape a1
        obtain ⟨A3, c3, rfl, _⟩ := OwnL.shape b1
        clear a1 a2 b1 b2 he RA RB
        go_wp2
        refine wp_region_wb (by kernel_rfl) (by kernel_rfl) ?_
        repeat (go_big_quiet_step ((go_at_call 17; exact Wb.calls (HEQ.out _))))
        refine wpQuiet_nil ?_; intro w1 hw'; obtain ⟨⟨w2, hb1⟩, hw''⟩ := hw'; subst hw''
        go_wp2
        go_roundw
        case rel => exact ⟨k + 1, by omega, by go_num, (by repeat (first | exact Below.refl _ _ | refine Below.alloc ?_ (by first | omega | (simp; done) | (simp; omega)) _ | apply Below.drew | apply below_drewN | refine Below.setCell ?_ (by first | omega | (simp; done) | (simp; omega)) _ | refine Below.trans ?_ (Below.mono (by assumption) (by first | omega | (simp; done) | (simp; omega)))))⟩
        case measure => simp [intOf]; omega
      · go_wp2
        go_ret
        exact ⟨rfl, hb⟩
end Go.Proofs.YtfcdienphillnaaGreat
