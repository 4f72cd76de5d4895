/- impl.FillFrom: the walk. -/
import Derived.Test.YtignjjkldmninaaFill
namespace Go.Proofs.Ytignjjkldmninaa
set_option linter.unusedVariables false
open Go.RowKit
abbrev dscL (d : Dsc) (v : Value) : List Value := [.int .i64 d.cyl, .int .i64 d.heads, .int .i64 d.per, .int .i64 d.size, v]
theorem two_own {w : World} {g Ba Bb : Nat} {a b : Dsc} {va vb : Value} (hr : Row w g [.int .i64 a.cyl, .int .i64 a.heads, .int .i64 a.per, .int .i64 a.size, va, .int .i64 b.cyl, .int .i64 b.heads, .int .i64 b.per, .int .i64 b.size, vb]) (hg : g < w.heap.size) (ha : SecOwn Ba w va a.secs) (hb : SecOwn Bb w vb b.secs) : DscOwn 0 w (.slice (some ⟨g, 0, none⟩) 2 2) [a, b] := by
  refine ⟨_, 2, rfl, .inr ⟨g, rfl, Nat.zero_le _, hg, fun k e he => ?_⟩⟩
  match k, he with
  | 0, he =>
    obtain rfl : a = e := by simpa using he
    refine ⟨va, OwnL.base ha (Nat.zero_le _), fun j u hu => ?_⟩
    rw [Nat.zero_mul, Nat.zero_add]
    match j, hu with
    | 0, hu => exact hr 0 u hu
    | 1, hu => exact hr 1 u hu
    | 2, hu => exact hr 2 u hu
    | 3, hu => exact hr 3 u hu
    | 4, hu => exact hr 4 u hu
    | j + 5, hu => simp [Dsc.ints] at hu
  | 1, he =>
    obtain rfl : b = e := by simpa using he
    refine ⟨vb, OwnL.base hb (Nat.zero_le _), fun j u hu => ?_⟩
    match j, hu with
    | 0, hu => exact hr 5 u hu
    | 1, hu => exact hr 6 u hu
    | 2, hu => exact hr 7 u hu
    | 3, hu => exact hr 8 u hu
    | 4, hu => exact hr 9 u hu
    | j + 5, hu => simp [Dsc.ints] at hu
structure FillB (w W : World) (a b : Dsc) (va vb : Value) : Prop where
  bel : Below w.heap.size w W
  size : W.heap.size = w.heap.size + 4
  ra : Row W w.heap.size (dscL a va)
  rb : Row W (w.heap.size + 1) (dscL b vb)
  rz : Row W (w.heap.size + 1 + 1) (dscL ⟨0, 0, 0, 0, []⟩ (.slice none 0 0))
  fz : ∀ o, W.frozen? ⟨w.heap.size + 1 + 1, o, none⟩ = false
  rab : Row W (w.heap.size + 1 + 1 + 1) [.int .i64 a.cyl, .int .i64 a.heads, .int .i64 a.per, .int .i64 a.size, va, .int .i64 b.cyl, .int .i64 b.heads, .int .i64 b.per, .int .i64 b.size, vb]
theorem alloc_frozen {w : World} {cs : Array Value} {e : TypeId} : ∀ o, (w.alloc (.cells cs e)).frozen? ⟨w.heap.size, o, none⟩ = false := by intro o; simp [go_sem]
theorem fillB (w : World) (a b : Dsc) (A A' : Option Addr) (c c' : Nat) : FillB w ((((w.alloc (.cells #[.int .i64 a.cyl, .int .i64 a.heads, .int .i64 a.per, .int .i64 a.size, .slice A a.secs.length c] 39)).alloc (.cells #[.int .i64 b.cyl, .int .i64 b.heads, .int .i64 b.per, .int .i64 b.size, .slice A' b.secs.length c'] 39)).alloc (.cells #[.int .i64 0, .int .i64 0, .int .i64 0, .int .i64 0, .slice none 0 0] 39)).alloc (.cells #[.int .i64 a.cyl, .int .i64 a.heads, .int .i64 a.per, .int .i64 a.size, .slice A a.secs.length c, .int .i64 b.cyl, .int .i64 b.heads, .int .i64 b.per, .int .i64 b.size, .slice A' b.secs.length c'] 39)) a b (.slice A a.secs.length c) (.slice A' b.secs.length c') where
  bel := (by repeat (first | exact Below.refl _ _ | refine Below.alloc ?_ (by first | omega | (simp; done) | (simp; omega)) _ | apply Below.drew | apply below_drewN | refine Below.setCell ?_ (by first | omega | (simp; done) | (simp; omega)) _ | refine Below.trans ?_ (Below.mono (by assumption) (by first | omega | (simp; done) | (simp; omega)))))
  size := by simp
  ra := (((Row.alloc w #[.int .i64 a.cyl, .int .i64 a.heads, .int .i64 a.per, .int .i64 a.size, .slice A a.secs.length c] 39).below (Below.alloc (Below.refl _ _) (Nat.le_refl _) _) (by simp)).below (Below.alloc (Below.refl _ _) (Nat.le_refl _) _) (by simp <;> omega)).below (Below.alloc (Below.refl _ _) (Nat.le_refl _) _) (by simp <;> omega)
  rb := by
    have h1 : Row ((w.alloc (.cells #[.int .i64 a.cyl, .int .i64 a.heads, .int .i64 a.per, .int .i64 a.size, .slice A a.secs.length c] 39)).alloc (.cells #[.int .i64 b.cyl, .int .i64 b.heads, .int .i64 b.per, .int .i64 b.size, .slice A' b.secs.length c'] 39)) (w.heap.size + 1) (dscL b (.slice A' b.secs.length c')) := by simpa using Row.alloc (w.alloc (.cells #[.int .i64 a.cyl, .int .i64 a.heads, .int .i64 a.per, .int .i64 a.size, .slice A a.secs.length c] 39)) #[.int .i64 b.cyl, .int .i64 b.heads, .int .i64 b.per, .int .i64 b.size, .slice A' b.secs.length c'] 39
    exact (h1.below (Below.alloc (Below.refl _ _) (Nat.le_refl _) _) (by simp)).below (Below.alloc (Below.refl _ _) (Nat.le_refl _) _) (by simp <;> omega)
  rz := by
    have h1 : Row (((w.alloc (.cells #[.int .i64 a.cyl, .int .i64 a.heads, .int .i64 a.per, .int .i64 a.size, .slice A a.secs.length c] 39)).alloc (.cells #[.int .i64 b.cyl, .int .i64 b.heads, .int .i64 b.per, .int .i64 b.size, .slice A' b.secs.length c'] 39)).alloc (.cells #[.int .i64 0, .int .i64 0, .int .i64 0, .int .i64 0, .slice none 0 0] 39)) (w.heap.size + 1 + 1) (dscL ⟨0, 0, 0, 0, []⟩ (.slice none 0 0)) := by simpa using Row.alloc ((w.alloc (.cells #[.int .i64 a.cyl, .int .i64 a.heads, .int .i64 a.per, .int .i64 a.size, .slice A a.secs.length c] 39)).alloc (.cells #[.int .i64 b.cyl, .int .i64 b.heads, .int .i64 b.per, .int .i64 b.size, .slice A' b.secs.length c'] 39)) #[.int .i64 0, .int .i64 0, .int .i64 0, .int .i64 0, .slice none 0 0] 39
    exact h1.below (Below.alloc (Below.refl _ _) (Nat.le_refl _) _) (by simp)
  fz := by
    have h1 : ∀ o, ((((w.alloc (.cells #[.int .i64 a.cyl, .int .i64 a.heads, .int .i64 a.per, .int .i64 a.size, .slice A a.secs.length c] 39)).alloc (.cells #[.int .i64 b.cyl, .int .i64 b.heads, .int .i64 b.per, .int .i64 b.size, .slice A' b.secs.length c'] 39)).alloc (.cells #[.int .i64 0, .int .i64 0, .int .i64 0, .int .i64 0, .slice none 0 0] 39))).frozen? ⟨w.heap.size + 1 + 1, o, none⟩ = false := by simpa using alloc_frozen (w := ((w.alloc (.cells #[.int .i64 a.cyl, .int .i64 a.heads, .int .i64 a.per, .int .i64 a.size, .slice A a.secs.length c] 39)).alloc (.cells #[.int .i64 b.cyl, .int .i64 b.heads, .int .i64 b.per, .int .i64 b.size, .slice A' b.secs.length c'] 39))) (cs := #[.int .i64 0, .int .i64 0, .int .i64 0, .int .i64 0, .slice none 0 0]) (e := 39)
    exact frozen_below h1 (Below.alloc (Below.refl _ _) (Nat.le_refl _) _) (by simp)
  rab := by simpa using Row.alloc (((w.alloc (.cells #[.int .i64 a.cyl, .int .i64 a.heads, .int .i64 a.per, .int .i64 a.size, .slice A a.secs.length c] 39)).alloc (.cells #[.int .i64 b.cyl, .int .i64 b.heads, .int .i64 b.per, .int .i64 b.size, .slice A' b.secs.length c'] 39)).alloc (.cells #[.int .i64 0, .int .i64 0, .int .i64 0, .int .i64 0, .slice none 0 0] 39)) #[.int .i64 a.cyl, .int .i64 a.heads, .int .i64 a.per, .int .i64 a.size, .slice A a.secs.length c, .int .i64 b.cyl, .int .i64 b.heads, .int .i64 b.per, .int .i64 b.size, .slice A' b.secs.length c'] 39
set_option maxRecDepth 20000 in
set_option maxHeartbeats 4000000 in
theorem fill_i (Ba Bb : Nat) (a b : Dsc) (va vb : Value) (w : World) (ha : SecOwn Ba w va a.secs) (hb : SecOwn Bb w vb b.secs) (hn : a.secs.length ≤ 1048576) (hm : b.secs.length ≤ 1048576) (ma : ∀ s ∈ a.secs, s.data.size ≤ maxLen) (mb : ∀ s ∈ b.secs, s.data.size ≤ maxLen) :
    Calls Try.prog 37 #[dscV a va, dscV b vb] w fun e w' => FillR w a b e w' := by
  have HA := Lib.hid ha
  have HBo := Lib.hid hb
  obtain ⟨A, c, rfl, _⟩ := OwnL.shape ha
  obtain ⟨A', c', rfl, _⟩ := OwnL.shape hb
  have HF := Lib.hid (fillB w a b A A' c c')
  have HV := Lib.hid (dumps_i 0 [a, b] _ ((((w.alloc (.cells #[.int .i64 a.cyl, .int .i64 a.heads, .int .i64 a.per, .int .i64 a.size, .slice A a.secs.length c] 39)).alloc (.cells #[.int .i64 b.cyl, .int .i64 b.heads, .int .i64 b.per, .int .i64 b.size, .slice A' b.secs.length c'] 39)).alloc (.cells #[.int .i64 0, .int .i64 0, .int .i64 0, .int .i64 0, .slice none 0 0] 39)).alloc (.cells #[.int .i64 a.cyl, .int .i64 a.heads, .int .i64 a.per, .int .i64 a.size, .slice A a.secs.length c, .int .i64 b.cyl, .int .i64 b.heads, .int .i64 b.per, .int .i64 b.size, .slice A' b.secs.length c'] 39)) (two_own HF.out.rab (by rw [HF.out.size]; omega) (OwnL.below HA.out HF.out.bel) (OwnL.below HBo.out HF.out.bel)) (by simp) (by simp; exact ⟨hn, hm⟩) (by simp; exact ⟨ma, mb⟩))
  clear ha hb
  unfold FillR fillD fillK fillE
  cases hv : dumpsOk [a, b]
  · rw [hv] at HV
    go_enter Try.func37, Try.ntmps37
    go_wp2_with (fail)
    refine HV.out.mono ?_; rintro e w1 ⟨rfl, hb1⟩
    have B1 : Below w.heap.size w w1 := HF.out.bel.trans (hb1.mono (by rw [HF.out.size]; omega))
    have z1 : w.heap.size + 4 ≤ w1.heap.size := Nat.le_trans (by rw [HF.out.size]; exact Nat.le_refl _) hb1.size
    have Z1 := HF.out.rz.below hb1 (by rw [HF.out.size]; omega)
    have f1 := frozen_below HF.out.fz hb1 (by rw [HF.out.size]; omega)
    clear HF HV hb1
    have r0 := Z1 0 _ rfl
    have r1 := Z1 1 _ rfl
    have r2 := Z1 2 _ rfl
    have r3 := Z1 3 _ rfl
    have r4 := Z1 4 _ rfl
    go_wp2
    let us := [Value.int .i64 0, .int .i64 0, .int .i64 0, .int .i64 0, .slice none 0 0]
    have Z2 := Z1.setL us (by simp [us])
    have B2 : Below w.heap.size w (setL w1 (w.heap.size + 1 + 1) 0 us) := setL_below (by omega) us B1
    show bodyPost _ _ _ _ _ (setL w1 (w.heap.size + 1 + 1) 0 us)
    clear Z1 r0 r1 r2 r3 r4 f1
    generalize (setL w1 (w.heap.size + 1 + 1) 0 us) = W at *
    have s0 := Z2 0 _ rfl
    have s1 := Z2 1 _ rfl
    have s2 := Z2 2 _ rfl
    have s3 := Z2 3 _ rfl
    have s4 := Z2 4 _ rfl
    refine bodyPost_ret (v := .tuple #[dscV ⟨0, 0, 0, 0, []⟩ (.slice none 0 0), .int .i64 0, .int .i64 1]) (by simp [results, Try.results37, go_sem, s0, s1, s2, s3, s4]; try done) rfl ⟨none, 0, rfl, OwnL.of_nil, B2⟩
  · rw [hv] at HV
    have HL := Lib.hid (dumps2 hv).2.2.2
    clear hv
    have HC := Lib.hid (fun (w' : World) (hb : Below w.heap.size w w') => cloneD_i Ba a (.slice A a.secs.length c) w' (OwnL.below HA.out hb) (by omega))
    have HN := Lib.hid (fillN_le a.secs b.secs)
    go_enter Try.func37, Try.ntmps37
    go_wp2_with (fail)
    refine HV.out.mono ?_; rintro e w1 ⟨rfl, hb1⟩
    have B1 : Below w.heap.size w w1 := HF.out.bel.trans (hb1.mono (by rw [HF.out.size]; omega))
    have z1 : w.heap.size + 4 ≤ w1.heap.size := Nat.le_trans (by rw [HF.out.size]; exact Nat.le_refl _) hb1.size
    have Z1 := HF.out.rz.below hb1 (by rw [HF.out.size]; omega)
    have Ra1 := HF.out.ra.below hb1 (by rw [HF.out.size]; omega)
    have Rb1 := HF.out.rb.below hb1 (by rw [HF.out.size]; omega)
    have f1 := frozen_below HF.out.fz hb1 (by rw [HF.out.size]; omega)
    clear HF HV hb1
    have r0 := Ra1 0 _ rfl
    have r1 := Ra1 1 _ rfl
    have r2 := Ra1 2 _ rfl
    have r3 := Ra1 3 _ rfl
    have r4 := Ra1 4 _ rfl
    go_wp2_with (fail)
    refine (HC.out w1 B1).mono ?_; rintro e w2 ⟨A2, c2, rfl, o2, hb2⟩
    have B2 := B1.trans (hb2.mono B1.size)
    have z2 : w1.heap.size ≤ w2.heap.size := hb2.size
    have Z2 := Z1.below hb2 (by omega)
    have Rb2 := Rb1.below hb2 (by omega)
    have f2 := frozen_below f1 hb2 (by omega)
    have hg2 : ∀ g, (Value.slice A2 a.secs.length c2).ownBlock = some g → w1.heap.size ≤ g ∧ g < w2.heap.size := fun g hg => World.ownsRow.lt o2 g hg
    have HX : Below w2.heap.size w2 (w2.alloc (.cells #[.int .i64 a.cyl, .int .i64 a.heads, .int .i64 a.per, .int .i64 a.size, .slice A2 a.secs.length c2] 39)) := Below.alloc (Below.refl _ _) (Nat.le_refl _) _
    have X3 : Row (w2.alloc (.cells #[.int .i64 a.cyl, .int .i64 a.heads, .int .i64 a.per, .int .i64 a.size, .slice A2 a.secs.length c2] 39)) w2.heap.size (dscL a (.slice A2 a.secs.length c2)) := Row.alloc w2 _ _
    have fx3 : ∀ o, ((w2.alloc (.cells #[.int .i64 a.cyl, .int .i64 a.heads, .int .i64 a.per, .int .i64 a.size, .slice A2 a.secs.length c2] 39))).frozen? ⟨w2.heap.size, o, none⟩ = false := alloc_frozen
    have B3 := B2.trans (HX.mono B2.size)
    have Z3 := Z2.below HX (by omega)
    have Rb3 := Rb2.below HX (by omega)
    have f3 := frozen_below f2 HX (by omega)
    have o3 := OwnL.below o2 HX
    have z3 : w2.heap.size < ((w2.alloc (.cells #[.int .i64 a.cyl, .int .i64 a.heads, .int .i64 a.per, .int .i64 a.size, .slice A2 a.secs.length c2] 39))).heap.size := by simp
    clear r0 r1 r2 r3 r4 Z2 Rb2 f2 Z1 Ra1 Rb1 f1 hb2 HX B2
    have r4 := Rb3 4 _ rfl
    go_wp2
    generalize (w2.alloc (.cells #[.int .i64 a.cyl, .int .i64 a.heads, .int .i64 a.per, .int .i64 a.size, .slice A2 a.secs.length c2] 39)) = W3 at *
    clear r4 Rb3
    go_loopw [22, 8] (fun i n wr => ∃ (k : Nat) (P : List Sec) (N : Int), k ≤ b.secs.length ∧ P.length = k ∧ i = .int .i64 k ∧ n = .int .i64 N ∧ (0 ≤ N ∧ N ≤ k) ∧ Below w.heap.size w wr ∧ Row wr w2.heap.size (dscL a (.slice A2 a.secs.length c2)) ∧ Row wr (w.heap.size + 1 + 1) (dscL ⟨0, 0, 0, 0, []⟩ (.slice none 0 0)) ∧ (∀ o, wr.frozen? ⟨w.heap.size + 1 + 1, o, none⟩ = false) ∧ w2.heap.size < wr.heap.size ∧ SecOwn w1.heap.size wr (.slice A2 a.secs.length c2) (P ++ a.secs.drop k) ∧ Hid (fillL a.secs b.secs = P ++ fillL (a.secs.drop k) (b.secs.drop k)) ∧ Hid (fillN a.secs b.secs = N + fillN (a.secs.drop k) (b.secs.drop k))) (fun i _ _ => b.secs.length - (intOf i).toNat)
    case atStart => exact ⟨0, [], 0, by omega, rfl, rfl, rfl, ⟨by omega, by simp⟩, B3, X3, Z3, f3, z3, o3, Lib.hid rfl, Lib.hid (by simp)⟩
    case round =>
      obtain ⟨k, P, N, hk, hP, rfl, rfl, hNk, hbw, hX, hZ, hfz, hzr, ho, HL1, HN1⟩ := hrel
      by_cases hltk : k < b.secs.length
      · have hL := HL.out
        obtain ⟨x, hx⟩ : ∃ x, a.secs[k]? = some x := ⟨a.secs[k]'(by omega), List.getElem?_eq_getElem (by omega)⟩
        obtain ⟨y, hy⟩ : ∃ y, b.secs[k]? = some y := ⟨b.secs[k], List.getElem?_eq_getElem hltk⟩
        have HX1 := Lib.hid hx
        have HY1 := Lib.hid hy
        have oB := OwnL.below HBo.out hbw
        obtain ⟨gb, rfl, hgb⟩ : ∃ gb, A' = some ⟨gb, 0, none⟩ ∧ gb < wr.heap.size := by
          obtain ⟨A0, c0, h0, h1⟩ := OwnL.shape oB
          injection h0 with h0 h2 h3
          obtain ⟨g0, h4, _, h5⟩ := h1.resolve_left (by intro he; rw [he] at hltk; simp at hltk)
          exact ⟨g0, h0.trans h4, h5⟩
        have hpl : (P ++ a.secs.drop k).length = a.secs.length := by simp; omega
        obtain ⟨g, rfl, hg1, hg2⟩ : ∃ g, A2 = some ⟨g, 0, none⟩ ∧ w1.heap.size ≤ g ∧ g < w2.heap.size := by
          obtain ⟨A0, c0, h0, h1⟩ := OwnL.shape ho
          injection h0 with h0 h2 h3
          obtain ⟨g0, h4, _, h5⟩ := h1.resolve_left (by intro he; rw [he] at hpl; simp at hpl; omega)
          obtain h6 := hg2 g0 (by rw [h0, h4]; rfl)
          exact ⟨g0, h0.trans h4, h6⟩
        have HG : (P ++ a.secs.drop k)[k]? = some x := by rw [List.getElem?_append_right (by omega), hP, Nat.sub_self, List.getElem?_drop, Nat.add_zero]; exact hx
        have y0 : wr.cell? ⟨gb, k * 2, none⟩ = some (.string y.data) := OwnL.cell Sec.len oB hy (j := 0) rfl
        have y1 : wr.cell? ⟨gb, k * 2 + 1, none⟩ = some (.int .i64 y.state) := OwnL.cell Sec.len oB hy (j := 1) rfl
        have xl : (flat Sec.cells (P ++ a.secs.drop k)).length = a.secs.length * 2 := by rw [flat_len Sec.len, hpl]
        have how : wr.ownsRow w1.heap.size 48 2 (.slice (some ⟨g, 0, none⟩) a.secs.length c2) a.secs.length (flat Sec.cells (P ++ a.secs.drop k)) := by have h := ho; unfold SecOwn OwnL at h; rwa [hpl] at h
        have x0 : wr.cell? ⟨g, k * 2, none⟩ = some (.string x.data) := (how.cellAt (k * 2 + 0) (by omega)).trans (flat_get Sec.len HG (j := 0) (by omega))
        have x1 : wr.cell? ⟨g, k * 2 + 1, none⟩ = some (.int .i64 x.state) := (how.cellAt (k * 2 + 1) (by omega)).trans (flat_get Sec.len HG (j := 1) (by omega))
        have fg : ∀ j, wr.frozen? ⟨g, j, none⟩ = false := fun j => how.frozenAt j
        have X4 := hX 4 _ rfl
        have hgr : g < wr.heap.size := by omega
        have HLk := Lib.hid (fillL_drop hx hy)
        have HNk := Lib.hid (fillN_drop hx hy)
        have HO := Lib.hid how
        have HO2 := Lib.hid ho
        have HR := Lib.hid (And.intro hX (And.intro hZ hfz))
        have HP := Lib.hid (And.intro hpl HG)
        have hlk : k < a.secs.length := by omega
        have hE : P ++ a.secs.drop k = (P ++ [x]) ++ a.secs.drop (k + 1) := by rw [List.append_assoc]; congr 1; obtain ⟨h1, e1⟩ := List.getElem?_eq_some_iff.1 hx; rw [List.drop_eq_getElem_cons h1, e1]; rfl
        have hS : (P ++ a.secs.drop k).set k y = (P ++ [y]) ++ a.secs.drop (k + 1) := by rw [hE, List.append_assoc, List.set_append_right _ _ (by omega), hP, Nat.sub_self, List.append_assoc]; rfl
        have HH := Lib.hid (And.intro hE (And.intro hS xl))
        have Bal : Below wr.heap.size wr (wr.alloc (.cells #[.string y.data, .int .i64 y.state] 48)) := Below.alloc (Below.refl _ _) (Nat.le_refl _) _
        have HBal := Lib.hid Bal
        obtain ⟨hN0, hNk⟩ := hNk
        clear ho how hX hZ hfz hx hy oB HG hpl xl hE hS Bal
        cases q1 : (x.state != 1)
        · have qs : fill1 x y = x ∧ fillC x y = 0 := by unfold fill1 fillC; simp at q1; simp [q1]
          go_wp2
          go_roundw; (case rel => obtain ⟨hE, hS, xl⟩ := HH.out; obtain ⟨hX, hZ, hfz⟩ := HR.out; exact ⟨k + 1, P ++ [x], N, by omega, by simp; omega, by go_num, rfl, ⟨by omega, by omega⟩, hbw.trans (HBal.out.mono hbw.size), hX.below HBal.out (by omega), hZ.below HBal.out (by omega), frozen_below hfz HBal.out (by omega), Nat.lt_of_lt_of_le hzr HBal.out.size, OwnL.below (hE ▸ (show SecOwn w1.heap.size wr (.slice (some ⟨g, 0, none⟩) a.secs.length c2) (P ++ a.secs.drop k) from HO2.out)) HBal.out, Lib.hid (by rw [HL1.out, HLk.out, qs.1]; simp), Lib.hid (by rw [HN1.out, HNk.out, qs.2]; omega)⟩); (case measure => (simp [intOf]; omega))
        · cases q2 : (y.state == 1)
          · have qs : fill1 x y = x ∧ fillC x y = 0 := by unfold fill1 fillC; simp at q2; simp [q2]
            go_wp2
            go_roundw; (case rel => obtain ⟨hE, hS, xl⟩ := HH.out; obtain ⟨hX, hZ, hfz⟩ := HR.out; exact ⟨k + 1, P ++ [x], N, by omega, by simp; omega, by go_num, rfl, ⟨by omega, by omega⟩, hbw.trans (HBal.out.mono hbw.size), hX.below HBal.out (by omega), hZ.below HBal.out (by omega), frozen_below hfz HBal.out (by omega), Nat.lt_of_lt_of_le hzr HBal.out.size, OwnL.below (hE ▸ (show SecOwn w1.heap.size wr (.slice (some ⟨g, 0, none⟩) a.secs.length c2) (P ++ a.secs.drop k) from HO2.out)) HBal.out, Lib.hid (by rw [HL1.out, HLk.out, qs.1]; simp), Lib.hid (by rw [HN1.out, HNk.out, qs.2]; omega)⟩); (case measure => (simp [intOf]; omega))
          · have qs : fill1 x y = y ∧ fillC x y = 1 := by unfold fill1 fillC; simp at q1 q2; simp [q1, q2]
            go_wp2
            go_roundw
            case rel =>
              obtain ⟨hE, hS, xl⟩ := HH.out
              obtain ⟨hX, hZ, hfz⟩ := HR.out
              have hsz : (((wr.setCell ⟨g, k * 2, none⟩ (.string y.data)).setCell ⟨g, k * 2 + 1, none⟩ (.int .i64 y.state))).heap.size = wr.heap.size := setL_size [_, _] wr g (k * 2)
              have Bst : Below (((wr.setCell ⟨g, k * 2, none⟩ (.string y.data)).setCell ⟨g, k * 2 + 1, none⟩ (.int .i64 y.state))).heap.size ((wr.setCell ⟨g, k * 2, none⟩ (.string y.data)).setCell ⟨g, k * 2 + 1, none⟩ (.int .i64 y.state)) (((wr.setCell ⟨g, k * 2, none⟩ (.string y.data)).setCell ⟨g, k * 2 + 1, none⟩ (.int .i64 y.state)).alloc (.cells #[.string y.data, .int .i64 y.state] 48)) := Below.alloc (Below.refl _ _) (Nat.le_refl _) _
              have h1 := own_put2 HO.out (o := k * 2) (.string y.data) (.int .i64 y.state) (by rw [xl]; omega)
              have h2 : putAt (flat Sec.cells (P ++ a.secs.drop k)) (k * 2) [.string y.data, .int .i64 y.state] = flat Sec.cells ((P ++ [y]) ++ a.secs.drop (k + 1)) := by rw [← hS]; exact flat_put Sec.len _ k y (by rw [HP.out.1]; exact hlk)
              rw [h2] at h1
              have h3 : SecOwn w1.heap.size ((wr.setCell ⟨g, k * 2, none⟩ (.string y.data)).setCell ⟨g, k * 2 + 1, none⟩ (.int .i64 y.state)) (.slice (some ⟨g, 0, none⟩) a.secs.length c2) ((P ++ [y]) ++ a.secs.drop (k + 1)) := by
                unfold SecOwn OwnL
                rw [show ((P ++ [y]) ++ a.secs.drop (k + 1)).length = a.secs.length from by simp; omega]
                exact h1
              refine ⟨k + 1, P ++ [y], N + 1, by omega, by simp; omega, by go_num, by go_num, ⟨by omega, by omega⟩, (Below.setCell (Below.setCell hbw (show w.heap.size ≤ g by omega) _) (show w.heap.size ≤ g by omega) _).trans (Bst.mono (by rw [hsz]; omega)), ((hX.set_other _ (by omega)).set_other _ (by omega)).below Bst (by rw [hsz]; omega), ((hZ.set_other _ (by omega)).set_other _ (by omega)).below Bst (by rw [hsz]; omega), ?_, Nat.lt_of_lt_of_le (by rw [hsz]; exact hzr) Bst.size, OwnL.below h3 Bst, ?_, ?_⟩
              · exact frozen_below (fun o => (setCell_frozen _ _ _ _).trans ((setCell_frozen _ _ _ _).trans (hfz o))) Bst (by rw [hsz]; omega)
              · exact Lib.hid (by rw [HL1.out, HLk.out, qs.1]; simp)
              · exact Lib.hid (by rw [HN1.out, HNk.out, qs.2]; omega)
            case measure => simp [intOf]; omega
      · obtain rfl : k = b.secs.length := by omega
        have eL : fillL a.secs b.secs = P := by rw [HL1.out, List.drop_of_length_le (by have := HL.out; omega), List.drop_of_length_le (by omega)]; exact List.append_nil P
        have eN : fillN a.secs b.secs = N := by rw [HN1.out, List.drop_of_length_le (by have := HL.out; omega), List.drop_of_length_le (by omega)]; exact Int.add_zero N
        rw [List.drop_of_length_le (show a.secs.length ≤ b.secs.length by have := HL.out; omega), List.append_nil] at ho
        have hPl : a.secs.length = P.length := by have := HL.out; omega
        have HPl := Lib.hid hPl
        have x0 := hX 0 _ rfl
        have x1 := hX 1 _ rfl
        have x2 := hX 2 _ rfl
        have x3 := hX 3 _ rfl
        have x4 := hX 4 _ rfl
        have y0 := hZ 0 _ rfl
        have y1 := hZ 1 _ rfl
        have y2 := hZ 2 _ rfl
        have y3 := hZ 3 _ rfl
        have y4 := hZ 4 _ rfl
        have HE := Lib.hid (And.intro eL eN)
        have HO := Lib.hid ho
        have HZ := Lib.hid hZ
        clear HL1 HN1 hPl hX hZ eL eN HL hP ho
        go_wp2
        let us := [Value.int .i64 a.cyl, .int .i64 a.heads, .int .i64 a.per, .int .i64 a.size, .slice A2 a.secs.length c2]
        have Z2 := HZ.out.setL us (by simp [us])
        have B2 : Below w.heap.size w (setL wr (w.heap.size + 1 + 1) 0 us) := setL_below (by omega) us hbw
        have O2 := setL_far (g := w.heap.size + 1 + 1) (o := 0) (by omega) us HO.out
        show bodyPost _ _ _ _ _ (setL wr (w.heap.size + 1 + 1) 0 us)
        clear x0 x1 x2 x3 x4 y0 y1 y2 y3 y4 hfz
        generalize (setL wr (w.heap.size + 1 + 1) 0 us) = W at *
        have s0 := Z2 0 _ rfl
        have s1 := Z2 1 _ rfl
        have s2 := Z2 2 _ rfl
        have s3 := Z2 3 _ rfl
        have s4 := Z2 4 _ rfl
        refine bodyPost_ret (v := .tuple #[dscV a (.slice A2 a.secs.length c2), .int .i64 N, .int .i64 0]) (by simp [results, Try.results37, go_sem, s0, s1, s2, s3, s4]; try done) rfl ?_
        obtain ⟨eL, eN⟩ := HE.out
        refine ⟨A2, c2, ?_, ?_, B2⟩
        · simp [eL, eN, HPl.out]
        · show SecOwn _ _ (.slice A2 (fillL a.secs b.secs).length c2) (fillL a.secs b.secs)
          rw [eL, ← HPl.out]
          exact OwnL.base O2 (by omega)
end Go.Proofs.Ytignjjkldmninaa
