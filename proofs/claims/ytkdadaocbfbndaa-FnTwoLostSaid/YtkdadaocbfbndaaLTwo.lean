/- FnTwoLost: the walk. -/
import Derived.Test.YtkdadaocbfbndaaLTwoLaw
import Derived.Test.YtkdadaocbfbndaaA2B
namespace Go.Proofs.Ytkdadaocbfbndaa
set_option linter.unusedVariables false
open Go.RowKit
set_option maxHeartbeats 2000000 in
theorem a2texts (l : List ByteArray) (va vb : Value) (Ba Bb : Nat) (w : World) (ha : StringL Ba w va l) (hb0 : StringL Bb w vb l) (hn : l.length ≤ 8388608) :
    Calls Try.prog 35 #[va, vb] w fun e w' => e = .returned (.bool true) ∧ Qt w w' := by
  obtain ⟨A, c, rfl, hA⟩ := ha.shape
  obtain ⟨A', c', rfl, hA'⟩ := hb0.shape
  by_cases hl0 : l = []
  · subst hl0
    go_enter Try.func35, Try.ntmps35
    go_wp2
    refine wp_loop_once ?_
    go_wp2
    go_ret
    exact ⟨rfl, Qt.refl _⟩
  · obtain ⟨ga, rfl, _, hga⟩ := hA.resolve_left hl0
    obtain ⟨gb, rfl, _, hgb⟩ := hA'.resolve_left hl0
    clear hA hA'
    go_enter Try.func35, Try.ntmps35
    go_wp2
    go_loopw [5] (fun i wr => ∃ k : Nat, k ≤ l.length ∧ i = .int .i64 k ∧ Qt w wr) (fun i _ => l.length - (intOf i).toNat)
    case atStart => exact ⟨0, by omega, rfl, Qt.refl _⟩
    case round =>
      obtain ⟨k, hk, rfl, hq⟩ := hrel
      by_cases hltk : k < l.length
      · obtain ⟨e, he⟩ : ∃ e, l[k]? = some e := ⟨l[k]'(by omega), List.getElem?_eq_getElem (by omega)⟩
        have r0 : wr.cell? ⟨ga, k, none⟩ = some (.string e) := (hq.cell _).trans (StringL.at_ ha rfl he)
        have s0 : wr.cell? ⟨gb, k, none⟩ = some (.string e) := (hq.cell _).trans (StringL.at_ hb0 rfl he)
        have j0 : (0 : Int) ≤ (k : Int) := by omega
        have j1 : (k : Int) < (l.length : Int) := by omega
        go_wp2
        go_quiet (fail)
        go_wp2
        go_roundw
        case rel => exact ⟨k + 1, by omega, by go_num, hq.drewN _⟩
        case measure => simp [intOf]; omega
      · go_wp2
        go_ret
        exact ⟨rfl, hq⟩
theorem left_two {B : Nat} {w6 : World} {g c n k m : Nat} {l : List ByteArray} (how : StringL B w6 (.slice (some ⟨g, 0, none⟩) n c) l) (hn : l.length = n) (hk : k < n) (hm : m < n) (x y : ByteArray) :
    (∃ s, w6.cell? ⟨g, k, none⟩ = some (.string s)) ∧ w6.frozen? ⟨g, k, none⟩ = false ∧ (∃ t, w6.cell? ⟨g, m, none⟩ = some (.string t)) ∧ w6.frozen? ⟨g, m, none⟩ = false ∧ StringL B ((w6.setCell ⟨g, k, none⟩ (.string x)).setCell ⟨g, m, none⟩ (.string y)) (.slice (some ⟨g, 0, none⟩) n c) ((l.set k x).set m y) := by
  have h1 := StringL.set how hn (k := k) (by omega) x
  have hl : (l.set k x).length = n := by rw [List.length_set]; exact hn
  exact ⟨⟨_, StringL.at_ how hn (List.getElem?_eq_getElem (by omega))⟩, OwnL.frozen (j := k) how, ⟨_, StringL.at_ how hn (List.getElem?_eq_getElem (by omega))⟩, OwnL.frozen (j := m) how, StringL.set h1 hl (by omega) y⟩
theorem left_one {B : Nat} {w6 : World} {g c n k : Nat} {l : List ByteArray} (how : StringL B w6 (.slice (some ⟨g, 0, none⟩) n c) l) (hn : l.length = n) (hk : k < n) (x : ByteArray) :
    (∃ s, w6.cell? ⟨g, k, none⟩ = some (.string s)) ∧ w6.frozen? ⟨g, k, none⟩ = false ∧ StringL B (w6.setCell ⟨g, k, none⟩ (.string x)) (.slice (some ⟨g, 0, none⟩) n c) (l.set k x) :=
  ⟨⟨_, StringL.at_ how hn (List.getElem?_eq_getElem (by omega))⟩, OwnL.frozen (j := k) how, StringL.set how hn (by omega) x⟩
theorem ints_below {w w' : World} {v : Value} {L : List Int} (h : IntsAt w v L) (hb : Below w.heap.size w w') : IntsAt w' v L := by
  obtain ⟨A', c', rfl, hA'⟩ := h
  refine ⟨_, _, rfl, hA'.imp id ?_⟩
  rintro ⟨g, rfl, hg, hc⟩
  exact ⟨g, rfl, Nat.lt_of_lt_of_le hg hb.size, fun k x hk => (hb.cell (p := ⟨g, k, none⟩) hg).trans (hc k x hk)⟩
/-- what the copied blocks are, behind an append of all blocks to a new list -/
theorem app_new {w wr w6 : World} {v' : Value} {l : List ByteArray} (hl : 1 ≤ l.length) (hB : Below w.heap.size w wr) (how : StringL wr.heap.size w6 v' ([] ++ l)) (hg : (wr.alloc (.cells #[] 9)).grownBy w6 (some wr.heap.size)) :
    ∃ g c, v' = .slice (some ⟨g, 0, none⟩) l.length c ∧ wr.heap.size ≤ g ∧ StringL wr.heap.size w6 (.slice (some ⟨g, 0, none⟩) l.length c) l ∧ Below w.heap.size w w6 ∧ Below wr.heap.size wr w6 := by
  rw [List.nil_append] at how
  obtain ⟨A, c, rfl, hA⟩ := OwnL.shape how
  obtain ⟨g, rfl, hg1, hg2⟩ := hA.resolve_left (by rintro rfl; simp at hl)
  have hwr := hB.size
  have h2 : Below wr.heap.size wr w6 := (Below.alloc (Below.refl _ _) (Nat.le_refl _) (.cells #[] 9)).grown hg (by first | omega | (simp; done) | (simp; omega)) (fun q hq => by (cases hq; omega))
  exact ⟨g, c, rfl, hg1, how, hB.trans (h2.mono hwr), h2⟩
theorem a2long (A A2 : Option Addr) (n c n2 c2 : Nat) (w : World) (hm : n ≤ maxLen) (hm2 : n2 ≤ maxLen) :
    Calls Try.prog 32 #[.slice A n c, .slice A2 n2 c2] w fun e w' => e = .returned (.bool (decide (3000 < n) || decide (3000 < n2))) ∧ w = w' := by
  unfold maxLen at hm hm2
  by_cases h1 : 3000 < n
  · have d1 : decide ((3000 : Int) < (n : Int)) = true := by simp; omega
    rw [decide_eq_true h1, Bool.true_or]
    go_enter Try.func32, Try.ntmps32
    go_wp2
    go_ret
    exact ⟨rfl, rfl⟩
  · have d1 : decide ((3000 : Int) < (n : Int)) = false := by simp; omega
    rw [decide_eq_false h1, Bool.false_or]
    cases h2 : decide (3000 < n2)
    · have h2' := of_decide_eq_false h2
      have d2 : decide ((3000 : Int) < (n2 : Int)) = false := by simp; omega
      go_enter Try.func32, Try.ntmps32
      go_wp2
      go_ret
      exact ⟨rfl, rfl⟩
    · have h2' := of_decide_eq_true h2
      have d2 : decide ((3000 : Int) < (n2 : Int)) = true := by simp; omega
      go_enter Try.func32, Try.ntmps32
      go_wp2
      go_ret
      exact ⟨rfl, rfl⟩
abbrev lostS : ByteArray := { data := #[108, 111, 115, 116] }
set_option maxRecDepth 20000 in
set_option maxHeartbeats 16000000 in
theorem walkFnTwoLost (A A2 : Option Addr) (n c n2 c2 : Nat) (w : World) (h1 : BytesIn w A n) (h2 : BytesIn w A2 n2) (hm : n ≤ maxLen) (hm2 : n2 ≤ maxLen) :
    Calls Try.prog 11 #[.slice A n c, .slice A2 n2 c2] w fun e w' => e = .returned (.bool true) ∧ Below w.heap.size w w' := by
  have HL := a2long A A2 n c n2 c2 w hm hm2
  cases hlong : (decide (3000 < n) || decide (3000 < n2))
  rotate_left
  · rw [hlong] at HL
    go_enter Try.func11, Try.ntmps11
    go_wp2_with (go_at_call 32; refine HL.mono ?_; rintro e w1 ⟨rfl, rfl⟩)
    go_ret
    exact ⟨rfl, Below.refl _ _⟩
  · rw [hlong] at HL
    simp only [Bool.or_eq_false_iff, decide_eq_false_iff_not] at hlong
    have hn1 : n ≤ 3000 := by omega
    have hn2 : n2 ≤ 3000 := by omega
    clear hlong hm hm2
    obtain ⟨i0, hi, hz0, hz1, hz2⟩ := info_parts scell_info
    go_enter Try.func11, Try.ntmps11
    go_wp2_with (go_at_call 32; refine HL.mono ?_; rintro e w1 ⟨rfl, rfl⟩)
    refine (a2group_s A n c _ h1 (by omega)).mono ?_; rintro e w1 ⟨v, l, rfl, O1, hg, hb1⟩
    obtain ⟨s0, hs0, hs1, hs2, hl1, hl2, hls⟩ := groupB_size hg
    obtain ⟨Ab, cb, rfl, hAb⟩ := OwnL.shape O1
    obtain ⟨g1, rfl, hg1w, hg1⟩ := hAb.resolve_left (by rintro rfl; simp at hl1)
    clear hAb h1 hs0
    have H2 := Lib.hid (h2.below hb1 (Nat.le_refl _))
    have z1 := hb1.size
    have HM := mk_i l (.slice (some ⟨g1, 0, none⟩) l.length cb) w1 (strL_own O1) (by omega)
    obtain ⟨zz, P, Q, hpar, hmk⟩ := par_of hg
    unfold mkV at HM
    rw [hmk] at HM
    have HM : Calls Try.prog 17 #[.slice (some ⟨g1, 0, none⟩) l.length cb] w1 fun e w' => e = .returned (.tuple #[.string (strN P), .string (strN Q), .int .i64 0]) ∧ Below w1.heap.size w1 w' := HM
    obtain ⟨⟨pl1, pl2⟩, _⟩ := hpar.len
    have hz64 := hpar.n2
    have hpz : (strN P).size ≤ 64 := by rw [strN_size]; omega
    have hqz : (strN Q).size ≤ 64 := by rw [strN_size]; omega
    have HO1 := Lib.hid O1
    have HT1 := Lib.hid (fun k s (hk : l[k]? = some s) => one_law hpar hk)
    have HT0 := Lib.hid (fun k s (hk : l[k]? = some s) => one_law0 hpar hk)
    have HTR := Lib.hid (fun k s (hk : l[k]? = some s) => one_lawR hpar hk)
    have HT2 := Lib.hid (fun k j s t (hk : l[k]? = some s) (hj : l[j]? = some t) (hkj : k < j) => two_law hpar hk hj hkj)
    clear O1 h2 hmk hpar pl1 pl2
    generalize strN P = p at *
    generalize strN Q = q at *
    go_wp2_with (fail)
    refine HM.mono ?_; rintro e w2 ⟨rfl, hb2⟩
    have z2 := hb2.size
    go_wp2_with (fail)
    refine (a2byte A2 n2 c2 0 l.length w2 (H2.out.below hb2 (Nat.le_refl _)) (by omega) (by omega) (by omega)).mono ?_; rintro e w4 ⟨k, hk, rfl, rfl⟩
    go_wp2_with (fail)
    refine (a2byte A2 n2 c2 1 l.length w2 (H2.out.below hb2 (Nat.le_refl _)) (by omega) (by omega) (by omega)).mono ?_; rintro e w4 ⟨m, hm, rfl, rfl⟩
    have hkl : k < l.length := by omega
    have hml : m < l.length := by omega
    obtain ⟨s, hs⟩ : ∃ s, l[k]? = some s := ⟨l[k], List.getElem?_eq_getElem hkl⟩
    obtain ⟨t, ht⟩ : ∃ t, l[m]? = some t := ⟨l[m], List.getElem?_eq_getElem hml⟩
    have HS := Lib.hid hs
    have B2 : Below w.heap.size w w2 := hb1.trans (hb2.mono z1)
    have HE0 : Hid (r2E (l.set k .empty) [(k : Int)] .empty q = (l, 0)) := Lib.hid ((r2_agree (by rw [List.length_set]) (set_agree1 (by simp [hasB]))).trans (HT0.out k s hs))
    have HER : Hid (r1V (l.set k .empty) (k : Int) p = .tuple #[.string s, .int .i64 0]) := Lib.hid (by unfold r1V; rw [(r1_agree (by rw [List.length_set]) (set_agree1 (by simp [hasB]))).trans (HTR.out k s hs)])
    have HP2 := Lib.hid (fun (B : Nat) (bl : List ByteArray) (L : List Int) (p q : ByteArray) (v vl : Value) (w : World) (hh : r2E bl L p q = (l, 0)) (h : StringL B w v bl) (hl : IntsAt w vl L) hn hL hp hq => show Calls Try.prog 27 #[v, vl, .string p, .string q] w fun e w' => RStringS.retI w l 0 e w' from by have := r2_i B bl L p q v vl w h hl hn hL hp hq; rw [hh] at this; exact this)
    clear hk hm
    rcases Nat.lt_trichotomy m k with hmk | hmk | hmk
    · have hc1 : decide ((m : Int) < (k : Int)) = true := decide_eq_true (by omega)
      have HE : Hid (r2E ((l.set k lostS).set m .empty) [(m : Int), (k : Int)] p q = (l, 0)) := Lib.hid ((r2_agree (by rw [List.length_set, List.length_set]) (set_agree (by simp [hasB]) (by simp [hasB]))).trans (HT2.out m k t s ht hs hmk))
      have HIL : IntsAt ((w2.alloc (.cells #[.int .i64 (k : Int)] 2)).alloc (.cells #[.int .i64 (m : Int), .int .i64 (k : Int)] 2)) (.slice (some ⟨w2.heap.size + 1, 0, none⟩) 2 2) [(m : Int), (k : Int)] := ⟨_, _, rfl, .inr ⟨w2.heap.size + 1, rfl, by simp, fun j x hj => by
        match j, hj with
        | 0, hj => (obtain rfl : (m : Int) = x := by simpa using hj); simp
        | 1, hj => (obtain rfl : (k : Int) = x := by simpa using hj); simp
        | j + 2, hj => simp at hj⟩⟩
      have HIH := Lib.hid HIL
      have BL : Below w.heap.size w ((w2.alloc (.cells #[.int .i64 (k : Int)] 2)).alloc (.cells #[.int .i64 (m : Int), .int .i64 (k : Int)] 2)) := (by repeat (first | exact Below.refl _ _ | refine Below.alloc ?_ (by first | omega | (simp; done) | (simp; omega)) _ | apply Below.drew | apply below_drewN | refine Below.setCell ?_ (by first | omega | (simp; done) | (simp; omega)) _ | refine Below.trans ?_ (Below.mono (by assumption) (by first | omega | (simp; done) | (simp; omega)))))
      have b12 : Below w1.heap.size w1 ((w2.alloc (.cells #[.int .i64 (k : Int)] 2)).alloc (.cells #[.int .i64 (m : Int), .int .i64 (k : Int)] 2)) := hb2.trans ((show Below w2.heap.size w2 ((w2.alloc (.cells #[.int .i64 (k : Int)] 2)).alloc (.cells #[.int .i64 (m : Int), .int .i64 (k : Int)] 2)) from (by repeat (first | exact Below.refl _ _ | refine Below.alloc ?_ (by first | omega | (simp; done) | (simp; omega)) _ | apply Below.drew | apply below_drewN | refine Below.setCell ?_ (by first | omega | (simp; done) | (simp; omega)) _ | refine Below.trans ?_ (Below.mono (by assumption) (by first | omega | (simp; done) | (simp; omega)))))).mono z2)
      have HLL := Lib.hid (OwnL.below HO1.out b12)
      clear hs ht HIL
      go_upto_region 15 with (fail)
      generalize hwr : ((w2.alloc (.cells #[.int .i64 (k : Int)] 2)).alloc (.cells #[.int .i64 (m : Int), .int .i64 (k : Int)] 2)) = wr at *
      clear hwr
      have hzr := BL.size
      go_wp2_with (at_builtin; refine wpList_appAll scell 1 scell_len _ rfl _ _ _ rfl wr.heap.size w.heap.size 9 9 i0 (.string .empty) 16 Try.underlying25 hi hz0 hz1 hz2 rfl (by omega) _ [] rfl (OwnL.of_empty wr (Nat.le_refl _)) _ l rfl (HLL.out.alloc _) (by intro b u hu; simp [scell] at hu; subst hu; simp [Value.oneCell']) (by simp; omega) (by omega) (by simp) ?_; intro v' w6 how6 hg6; obtain ⟨g6, cq, rfl, hg6a, O6, B6, b6⟩ := app_new hl1 BL how6 hg6; obtain ⟨⟨s6, c6⟩, f6, ⟨s7, c7⟩, f7, O7⟩ := left_two O6 rfl hkl hml lostS .empty; clear how6 hg6)
      have b7 := Below.setCell (Below.setCell b6 (p := ⟨g6, k, none⟩) (by show wr.heap.size ≤ g6; exact hg6a) (.string lostS)) (p := ⟨g6, m, none⟩) (by show wr.heap.size ≤ g6; exact hg6a) (.string .empty)
      refine (HP2.out wr.heap.size ((l.set k lostS).set m .empty) [(m : Int), (k : Int)] p q _ _ _ HE.out O7 (ints_below HIH.out b7) (by simp; omega) (by simp) (by omega) (by omega)).mono ?_; rintro e w8 ⟨v8, rfl, o8, hb8⟩
      have b8 : Below wr.heap.size wr w8 := b7.trans (hb8.mono b7.size)
      have z8 := b8.size
      have O8 := Lib.hid o8.1
      have L8 := Lib.hid (OwnL.below HLL.out b8)
      have B8 : Below w.heap.size w w8 := BL.trans (b8.mono hzr)
      obtain ⟨A8, c8, rfl, _⟩ := OwnL.shape o8.1
      clear O7 c6 f6 c7 f7 o8 O6 b7
      go_wp2_with (fail)
      refine (a2texts l _ _ _ _ w8 O8.out L8.out (by omega)).mono ?_; rintro e w9 ⟨rfl, hq9⟩
      have hb9 : Below w8.heap.size w8 w9 := hq9.below _
      have z9 := hb9.size
      have L9 := Lib.hid (OwnL.below L8.out hb9)
      have B9 : Below w.heap.size w w9 := B8.trans (hb9.mono B8.size)
      have zw9 := B9.size
      clear O8
      go_wp2_with (at_builtin; refine wpList_appAll scell 1 scell_len _ rfl _ _ _ rfl w9.heap.size w.heap.size 9 9 i0 (.string .empty) 16 Try.underlying25 hi hz0 hz1 hz2 rfl (by omega) _ [] rfl (OwnL.of_empty w9 (Nat.le_refl _)) _ l rfl (L9.out.alloc _) (by intro b u hu; simp [scell] at hu; subst hu; simp [Value.oneCell']) (by simp; omega) (by omega) (by simp) ?_; intro v' w10 how10 hg10; obtain ⟨g10, cr, rfl, hg10a, O10, B10, b10⟩ := app_new hl1 B9 how10 hg10; obtain ⟨⟨s10, c10⟩, f10, O11⟩ := left_one O10 rfl hkl .empty; clear how10 hg10)
      have b11 := Below.setCell b10 (p := ⟨g10, k, none⟩) (by show w9.heap.size ≤ g10; exact hg10a) (.string .empty)
      have b11a := Below.alloc b11 b11.size (.cells #[.int .i64 (k : Int)] 2)
      have O11a := Lib.hid (OwnL.alloc O11 (.cells #[.int .i64 (k : Int)] 2))
      have HI2 : IntsAt ((w10.setCell ⟨g10, k, none⟩ (.string .empty)).alloc (.cells #[.int .i64 (k : Int)] 2)) (.slice (some ⟨w10.heap.size, 0, none⟩) 1 1) [(k : Int)] := ⟨_, _, rfl, .inr ⟨w10.heap.size, rfl, by simp, fun j x hj => by
        match j, hj with
        | 0, hj => (obtain rfl : (k : Int) = x := by simpa using hj); (have hh := cell_of_one (heap_alloc_new (w10.setCell ⟨g10, k, none⟩ (.string .empty)) (.cells #[.int .i64 (k : Int)] 2))); (rw [World.size_setCell] at hh); exact hh
        | j + 1, hj => simp at hj⟩⟩
      have HR1 := fun (v : Value) (w' : World) (hh : StringL w9.heap.size w' v (l.set k .empty)) => r1_i w9.heap.size (l.set k .empty) (k : Int) p v w' hh (by simp; omega) (by omega) (by omega)
      rw [HER.out] at HR1
      have HRH := Lib.hid HR1
      clear HR1 O11 c10 f10
      refine (HP2.out w9.heap.size (l.set k .empty) [(k : Int)] .empty q _ _ _ HE0.out O11a.out HI2 (by simp; omega) (by simp) (by decide) (by omega)).mono ?_; rintro e w12 ⟨v12, rfl, o12, hb12⟩
      have b12' : Below w9.heap.size w9 w12 := b11a.trans (hb12.mono b11a.size)
      have z12 := b12'.size
      have O12 := Lib.hid o12.1
      have E12 := Lib.hid (OwnL.below O11a.out hb12)
      obtain ⟨A12, c12, rfl, _⟩ := OwnL.shape o12.1
      clear o12 HI2
      go_wp2_with (fail)
      refine (HRH.out _ w12 E12.out).mono ?_; rintro e w13 ⟨rfl, hb13⟩
      have b13 : Below w9.heap.size w9 w13 := b12'.trans (hb13.mono z12)
      have L13 := Lib.hid (OwnL.below L9.out b13)
      have O13 := Lib.hid (OwnL.below O12.out hb13)
      have B13 : Below w.heap.size w w13 := B9.trans (b13.mono zw9)
      go_wp2_with (fail)
      refine (a2texts l _ _ _ _ w13 O13.out L13.out (by omega)).mono ?_; rintro e w14 ⟨rfl, hq14⟩
      have hb14 : Below w13.heap.size w13 w14 := hq14.below _
      have pk14 : w14.cell? ⟨g1, k, none⟩ = some (.string s) := StringL.at_ (OwnL.below L13.out hb14) rfl HS.out
      go_wp2
      go_ret
      exact ⟨rfl, B13.trans (hb14.mono B13.size)⟩
    · have hmk' := hmk.symm
      subst hmk'
      have hc1 : decide ((k : Int) < (k : Int)) = false := decide_eq_false (by omega)
      have HE : Hid (r2E ((l.set k lostS).set k .empty) [(k : Int)] p q = (l, 0)) := Lib.hid ((r2_agree (by rw [List.length_set, List.length_set]) (set_agree (by simp [hasB]) (by simp [hasB]))).trans (HT1.out k s hs))
      have HIL : IntsAt (w2.alloc (.cells #[.int .i64 (k : Int)] 2)) (.slice (some ⟨w2.heap.size, 0, none⟩) 1 1) [(k : Int)] := ⟨_, _, rfl, .inr ⟨w2.heap.size, rfl, by simp, fun j x hj => by
        match j, hj with
        | 0, hj => (obtain rfl : (k : Int) = x := by simpa using hj); simp
        | j + 1, hj => simp at hj⟩⟩
      have HIH := Lib.hid HIL
      have BL : Below w.heap.size w (w2.alloc (.cells #[.int .i64 (k : Int)] 2)) := (by repeat (first | exact Below.refl _ _ | refine Below.alloc ?_ (by first | omega | (simp; done) | (simp; omega)) _ | apply Below.drew | apply below_drewN | refine Below.setCell ?_ (by first | omega | (simp; done) | (simp; omega)) _ | refine Below.trans ?_ (Below.mono (by assumption) (by first | omega | (simp; done) | (simp; omega)))))
      have b12 : Below w1.heap.size w1 (w2.alloc (.cells #[.int .i64 (k : Int)] 2)) := hb2.trans ((show Below w2.heap.size w2 (w2.alloc (.cells #[.int .i64 (k : Int)] 2)) from (by repeat (first | exact Below.refl _ _ | refine Below.alloc ?_ (by first | omega | (simp; done) | (simp; omega)) _ | apply Below.drew | apply below_drewN | refine Below.setCell ?_ (by first | omega | (simp; done) | (simp; omega)) _ | refine Below.trans ?_ (Below.mono (by assumption) (by first | omega | (simp; done) | (simp; omega)))))).mono z2)
      have HLL := Lib.hid (OwnL.below HO1.out b12)
      clear hs ht HIL
      go_upto_region 15 with (fail)
      generalize hwr : (w2.alloc (.cells #[.int .i64 (k : Int)] 2)) = wr at *
      clear hwr
      have hzr := BL.size
      go_wp2_with (at_builtin; refine wpList_appAll scell 1 scell_len _ rfl _ _ _ rfl wr.heap.size w.heap.size 9 9 i0 (.string .empty) 16 Try.underlying25 hi hz0 hz1 hz2 rfl (by omega) _ [] rfl (OwnL.of_empty wr (Nat.le_refl _)) _ l rfl (HLL.out.alloc _) (by intro b u hu; simp [scell] at hu; subst hu; simp [Value.oneCell']) (by simp; omega) (by omega) (by simp) ?_; intro v' w6 how6 hg6; obtain ⟨g6, cq, rfl, hg6a, O6, B6, b6⟩ := app_new hl1 BL how6 hg6; obtain ⟨⟨s6, c6⟩, f6, ⟨s7, c7⟩, f7, O7⟩ := left_two O6 rfl hkl hml lostS .empty; clear how6 hg6)
      have b7 := Below.setCell (Below.setCell b6 (p := ⟨g6, k, none⟩) (by show wr.heap.size ≤ g6; exact hg6a) (.string lostS)) (p := ⟨g6, k, none⟩) (by show wr.heap.size ≤ g6; exact hg6a) (.string .empty)
      refine (HP2.out wr.heap.size ((l.set k lostS).set k .empty) [(k : Int)] p q _ _ _ HE.out O7 (ints_below HIH.out b7) (by simp; omega) (by simp) (by omega) (by omega)).mono ?_; rintro e w8 ⟨v8, rfl, o8, hb8⟩
      have b8 : Below wr.heap.size wr w8 := b7.trans (hb8.mono b7.size)
      have z8 := b8.size
      have O8 := Lib.hid o8.1
      have L8 := Lib.hid (OwnL.below HLL.out b8)
      have B8 : Below w.heap.size w w8 := BL.trans (b8.mono hzr)
      obtain ⟨A8, c8, rfl, _⟩ := OwnL.shape o8.1
      clear O7 c6 f6 c7 f7 o8 O6 b7
      go_wp2_with (fail)
      refine (a2texts l _ _ _ _ w8 O8.out L8.out (by omega)).mono ?_; rintro e w9 ⟨rfl, hq9⟩
      have hb9 : Below w8.heap.size w8 w9 := hq9.below _
      have z9 := hb9.size
      have L9 := Lib.hid (OwnL.below L8.out hb9)
      have B9 : Below w.heap.size w w9 := B8.trans (hb9.mono B8.size)
      have zw9 := B9.size
      clear O8
      go_wp2_with (at_builtin; refine wpList_appAll scell 1 scell_len _ rfl _ _ _ rfl w9.heap.size w.heap.size 9 9 i0 (.string .empty) 16 Try.underlying25 hi hz0 hz1 hz2 rfl (by omega) _ [] rfl (OwnL.of_empty w9 (Nat.le_refl _)) _ l rfl (L9.out.alloc _) (by intro b u hu; simp [scell] at hu; subst hu; simp [Value.oneCell']) (by simp; omega) (by omega) (by simp) ?_; intro v' w10 how10 hg10; obtain ⟨g10, cr, rfl, hg10a, O10, B10, b10⟩ := app_new hl1 B9 how10 hg10; obtain ⟨⟨s10, c10⟩, f10, O11⟩ := left_one O10 rfl hkl .empty; clear how10 hg10)
      have b11 := Below.setCell b10 (p := ⟨g10, k, none⟩) (by show w9.heap.size ≤ g10; exact hg10a) (.string .empty)
      have b11a := Below.alloc b11 b11.size (.cells #[.int .i64 (k : Int)] 2)
      have O11a := Lib.hid (OwnL.alloc O11 (.cells #[.int .i64 (k : Int)] 2))
      have HI2 : IntsAt ((w10.setCell ⟨g10, k, none⟩ (.string .empty)).alloc (.cells #[.int .i64 (k : Int)] 2)) (.slice (some ⟨w10.heap.size, 0, none⟩) 1 1) [(k : Int)] := ⟨_, _, rfl, .inr ⟨w10.heap.size, rfl, by simp, fun j x hj => by
        match j, hj with
        | 0, hj => (obtain rfl : (k : Int) = x := by simpa using hj); (have hh := cell_of_one (heap_alloc_new (w10.setCell ⟨g10, k, none⟩ (.string .empty)) (.cells #[.int .i64 (k : Int)] 2))); (rw [World.size_setCell] at hh); exact hh
        | j + 1, hj => simp at hj⟩⟩
      have HR1 := fun (v : Value) (w' : World) (hh : StringL w9.heap.size w' v (l.set k .empty)) => r1_i w9.heap.size (l.set k .empty) (k : Int) p v w' hh (by simp; omega) (by omega) (by omega)
      rw [HER.out] at HR1
      have HRH := Lib.hid HR1
      clear HR1 O11 c10 f10
      refine (HP2.out w9.heap.size (l.set k .empty) [(k : Int)] .empty q _ _ _ HE0.out O11a.out HI2 (by simp; omega) (by simp) (by decide) (by omega)).mono ?_; rintro e w12 ⟨v12, rfl, o12, hb12⟩
      have b12' : Below w9.heap.size w9 w12 := b11a.trans (hb12.mono b11a.size)
      have z12 := b12'.size
      have O12 := Lib.hid o12.1
      have E12 := Lib.hid (OwnL.below O11a.out hb12)
      obtain ⟨A12, c12, rfl, _⟩ := OwnL.shape o12.1
      clear o12 HI2
      go_wp2_with (fail)
      refine (HRH.out _ w12 E12.out).mono ?_; rintro e w13 ⟨rfl, hb13⟩
      have b13 : Below w9.heap.size w9 w13 := b12'.trans (hb13.mono z12)
      have L13 := Lib.hid (OwnL.below L9.out b13)
      have O13 := Lib.hid (OwnL.below O12.out hb13)
      have B13 : Below w.heap.size w w13 := B9.trans (b13.mono zw9)
      go_wp2_with (fail)
      refine (a2texts l _ _ _ _ w13 O13.out L13.out (by omega)).mono ?_; rintro e w14 ⟨rfl, hq14⟩
      have hb14 : Below w13.heap.size w13 w14 := hq14.below _
      have pk14 : w14.cell? ⟨g1, k, none⟩ = some (.string s) := StringL.at_ (OwnL.below L13.out hb14) rfl HS.out
      go_wp2
      go_ret
      exact ⟨rfl, B13.trans (hb14.mono B13.size)⟩
    · have hc1 : decide ((m : Int) < (k : Int)) = false := decide_eq_false (by omega)
      have hc2 : decide ((k : Int) < (m : Int)) = true := decide_eq_true (by omega)
      have HE : Hid (r2E ((l.set k lostS).set m .empty) [(k : Int), (m : Int)] p q = (l, 0)) := Lib.hid ((r2_agree (by rw [List.length_set, List.length_set]) (set_agree (by simp [hasB]) (by simp [hasB]))).trans (HT2.out k m s t hs ht hmk))
      have HIL : IntsAt ((w2.alloc (.cells #[.int .i64 (k : Int)] 2)).alloc (.cells #[.int .i64 (k : Int), .int .i64 (m : Int)] 2)) (.slice (some ⟨w2.heap.size + 1, 0, none⟩) 2 2) [(k : Int), (m : Int)] := ⟨_, _, rfl, .inr ⟨w2.heap.size + 1, rfl, by simp, fun j x hj => by
        match j, hj with
        | 0, hj => (obtain rfl : (k : Int) = x := by simpa using hj); simp
        | 1, hj => (obtain rfl : (m : Int) = x := by simpa using hj); simp
        | j + 2, hj => simp at hj⟩⟩
      have HIH := Lib.hid HIL
      have BL : Below w.heap.size w ((w2.alloc (.cells #[.int .i64 (k : Int)] 2)).alloc (.cells #[.int .i64 (k : Int), .int .i64 (m : Int)] 2)) := (by repeat (first | exact Below.refl _ _ | refine Below.alloc ?_ (by first | omega | (simp; done) | (simp; omega)) _ | apply Below.drew | apply below_drewN | refine Below.setCell ?_ (by first | omega | (simp; done) | (simp; omega)) _ | refine Below.trans ?_ (Below.mono (by assumption) (by first | omega | (simp; done) | (simp; omega)))))
      have b12 : Below w1.heap.size w1 ((w2.alloc (.cells #[.int .i64 (k : Int)] 2)).alloc (.cells #[.int .i64 (k : Int), .int .i64 (m : Int)] 2)) := hb2.trans ((show Below w2.heap.size w2 ((w2.alloc (.cells #[.int .i64 (k : Int)] 2)).alloc (.cells #[.int .i64 (k : Int), .int .i64 (m : Int)] 2)) from (by repeat (first | exact Below.refl _ _ | refine Below.alloc ?_ (by first | omega | (simp; done) | (simp; omega)) _ | apply Below.drew | apply below_drewN | refine Below.setCell ?_ (by first | omega | (simp; done) | (simp; omega)) _ | refine Below.trans ?_ (Below.mono (by assumption) (by first | omega | (simp; done) | (simp; omega)))))).mono z2)
      have HLL := Lib.hid (OwnL.below HO1.out b12)
      clear hs ht HIL
      go_upto_region 15 with (fail)
      generalize hwr : ((w2.alloc (.cells #[.int .i64 (k : Int)] 2)).alloc (.cells #[.int .i64 (k : Int), .int .i64 (m : Int)] 2)) = wr at *
      clear hwr
      have hzr := BL.size
      go_wp2_with (at_builtin; refine wpList_appAll scell 1 scell_len _ rfl _ _ _ rfl wr.heap.size w.heap.size 9 9 i0 (.string .empty) 16 Try.underlying25 hi hz0 hz1 hz2 rfl (by omega) _ [] rfl (OwnL.of_empty wr (Nat.le_refl _)) _ l rfl (HLL.out.alloc _) (by intro b u hu; simp [scell] at hu; subst hu; simp [Value.oneCell']) (by simp; omega) (by omega) (by simp) ?_; intro v' w6 how6 hg6; obtain ⟨g6, cq, rfl, hg6a, O6, B6, b6⟩ := app_new hl1 BL how6 hg6; obtain ⟨⟨s6, c6⟩, f6, ⟨s7, c7⟩, f7, O7⟩ := left_two O6 rfl hkl hml lostS .empty; clear how6 hg6)
      have b7 := Below.setCell (Below.setCell b6 (p := ⟨g6, k, none⟩) (by show wr.heap.size ≤ g6; exact hg6a) (.string lostS)) (p := ⟨g6, m, none⟩) (by show wr.heap.size ≤ g6; exact hg6a) (.string .empty)
      refine (HP2.out wr.heap.size ((l.set k lostS).set m .empty) [(k : Int), (m : Int)] p q _ _ _ HE.out O7 (ints_below HIH.out b7) (by simp; omega) (by simp) (by omega) (by omega)).mono ?_; rintro e w8 ⟨v8, rfl, o8, hb8⟩
      have b8 : Below wr.heap.size wr w8 := b7.trans (hb8.mono b7.size)
      have z8 := b8.size
      have O8 := Lib.hid o8.1
      have L8 := Lib.hid (OwnL.below HLL.out b8)
      have B8 : Below w.heap.size w w8 := BL.trans (b8.mono hzr)
      obtain ⟨A8, c8, rfl, _⟩ := OwnL.shape o8.1
      clear O7 c6 f6 c7 f7 o8 O6 b7
      go_wp2_with (fail)
      refine (a2texts l _ _ _ _ w8 O8.out L8.out (by omega)).mono ?_; rintro e w9 ⟨rfl, hq9⟩
      have hb9 : Below w8.heap.size w8 w9 := hq9.below _
      have z9 := hb9.size
      have L9 := Lib.hid (OwnL.below L8.out hb9)
      have B9 : Below w.heap.size w w9 := B8.trans (hb9.mono B8.size)
      have zw9 := B9.size
      clear O8
      go_wp2_with (at_builtin; refine wpList_appAll scell 1 scell_len _ rfl _ _ _ rfl w9.heap.size w.heap.size 9 9 i0 (.string .empty) 16 Try.underlying25 hi hz0 hz1 hz2 rfl (by omega) _ [] rfl (OwnL.of_empty w9 (Nat.le_refl _)) _ l rfl (L9.out.alloc _) (by intro b u hu; simp [scell] at hu; subst hu; simp [Value.oneCell']) (by simp; omega) (by omega) (by simp) ?_; intro v' w10 how10 hg10; obtain ⟨g10, cr, rfl, hg10a, O10, B10, b10⟩ := app_new hl1 B9 how10 hg10; obtain ⟨⟨s10, c10⟩, f10, O11⟩ := left_one O10 rfl hkl .empty; clear how10 hg10)
      have b11 := Below.setCell b10 (p := ⟨g10, k, none⟩) (by show w9.heap.size ≤ g10; exact hg10a) (.string .empty)
      have b11a := Below.alloc b11 b11.size (.cells #[.int .i64 (k : Int)] 2)
      have O11a := Lib.hid (OwnL.alloc O11 (.cells #[.int .i64 (k : Int)] 2))
      have HI2 : IntsAt ((w10.setCell ⟨g10, k, none⟩ (.string .empty)).alloc (.cells #[.int .i64 (k : Int)] 2)) (.slice (some ⟨w10.heap.size, 0, none⟩) 1 1) [(k : Int)] := ⟨_, _, rfl, .inr ⟨w10.heap.size, rfl, by simp, fun j x hj => by
        match j, hj with
        | 0, hj => (obtain rfl : (k : Int) = x := by simpa using hj); (have hh := cell_of_one (heap_alloc_new (w10.setCell ⟨g10, k, none⟩ (.string .empty)) (.cells #[.int .i64 (k : Int)] 2))); (rw [World.size_setCell] at hh); exact hh
        | j + 1, hj => simp at hj⟩⟩
      have HR1 := fun (v : Value) (w' : World) (hh : StringL w9.heap.size w' v (l.set k .empty)) => r1_i w9.heap.size (l.set k .empty) (k : Int) p v w' hh (by simp; omega) (by omega) (by omega)
      rw [HER.out] at HR1
      have HRH := Lib.hid HR1
      clear HR1 O11 c10 f10
      refine (HP2.out w9.heap.size (l.set k .empty) [(k : Int)] .empty q _ _ _ HE0.out O11a.out HI2 (by simp; omega) (by simp) (by decide) (by omega)).mono ?_; rintro e w12 ⟨v12, rfl, o12, hb12⟩
      have b12' : Below w9.heap.size w9 w12 := b11a.trans (hb12.mono b11a.size)
      have z12 := b12'.size
      have O12 := Lib.hid o12.1
      have E12 := Lib.hid (OwnL.below O11a.out hb12)
      obtain ⟨A12, c12, rfl, _⟩ := OwnL.shape o12.1
      clear o12 HI2
      go_wp2_with (fail)
      refine (HRH.out _ w12 E12.out).mono ?_; rintro e w13 ⟨rfl, hb13⟩
      have b13 : Below w9.heap.size w9 w13 := b12'.trans (hb13.mono z12)
      have L13 := Lib.hid (OwnL.below L9.out b13)
      have O13 := Lib.hid (OwnL.below O12.out hb13)
      have B13 : Below w.heap.size w w13 := B9.trans (b13.mono zw9)
      go_wp2_with (fail)
      refine (a2texts l _ _ _ _ w13 O13.out L13.out (by omega)).mono ?_; rintro e w14 ⟨rfl, hq14⟩
      have hb14 : Below w13.heap.size w13 w14 := hq14.below _
      have pk14 : w14.cell? ⟨g1, k, none⟩ = some (.string s) := StringL.at_ (OwnL.below L13.out hb14) rfl HS.out
      go_wp2
      go_ret
      exact ⟨rfl, B13.trans (hb14.mono B13.size)⟩
end Go.Proofs.Ytkdadaocbfbndaa
