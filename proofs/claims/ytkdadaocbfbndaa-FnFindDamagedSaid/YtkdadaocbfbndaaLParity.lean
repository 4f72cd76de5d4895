/- FnParity: the walk. -/
import Derived.Test.YtkdadaocbfbndaaA2
import Derived.Test.YtkdadaocbfbndaaParLaw
import Derived.Test.YtkdadaocbfbndaaStrOf
import Derived.Deep.RegionHeld3
namespace Go.Proofs.Ytkdadaocbfbndaa
set_option linter.unusedVariables false
open Go.RowKit
theorem a2long (A A2 : Option Addr) (n c n2 c2 : Nat) (w : World) (hm : n ≤ maxLen) (hm2 : n2 ≤ maxLen) :
    Calls Try.prog 32 #[.slice A n c, .slice A2 n2 c2] w fun e w' => e = .returned (.bool (decide (3000 < n) || decide (3000 < n2))) ∧ w = w' := by
  unfold maxLen at hm hm2
  by_cases h1 : 3000 < n
  · have d1 : decide ((3000 : Int) < (n : Int)) = true := by simp; omega
    rw [decide_eq_true h1, Bool.true_or]
    go_enter Try.func32, Try.ntmps32
    go_wp2
    go_ret
    exact ⟨rfl, rfl⟩
  · have d1 : decide ((3000 : Int) < (n : Int)) = false := by simp; omega
    rw [decide_eq_false h1, Bool.false_or]
    cases h2 : decide (3000 < n2)
    · have h2' := of_decide_eq_false h2
      have d2 : decide ((3000 : Int) < (n2 : Int)) = false := by simp; omega
      go_enter Try.func32, Try.ntmps32
      go_wp2
      go_ret
      exact ⟨rfl, rfl⟩
    · have h2' := of_decide_eq_true h2
      have d2 : decide ((3000 : Int) < (n2 : Int)) = true := by simp; omega
      go_enter Try.func32, Try.ntmps32
      go_wp2
      go_ret
      exact ⟨rfl, rfl⟩
theorem flat_scell (l : List ByteArray) : flat scell l = l.map (fun x => Value.string x) := by
  induction l with
  | nil => rfl
  | cons a l ih => rw [flat_cons, ih]; rfl
theorem StringL.set {B g c n : Nat} {w : World} {l : List ByteArray} (h : StringL B w (.slice (some ⟨g, 0, none⟩) n c) l) (hn : l.length = n) {k : Nat} (x : ByteArray) : StringL B (w.setCell ⟨g, k, none⟩ (.string x)) (.slice (some ⟨g, 0, none⟩) n c) (l.set k x) := by
  subst hn
  have h1 := (World.ownsRow.stored h k (.string x)).1
  have e : (flat scell l).set k (.string x) = flat scell (l.set k x) := by
    rw [flat_scell, flat_scell, List.map_set]
  rw [e] at h1
  show World.ownsRow _ _ _ _ _ _ _
  rw [List.length_set]
  exact h1
theorem set_lt {l : List Nat} {i x : Nat} (h : ∀ y ∈ l, y < 256) (hx : x < 256) : ∀ y ∈ l.set i x, y < 256 := by
  intro y hy
  rcases List.mem_or_eq_of_mem_set hy with hy | rfl
  · exact h y hy
  · exact hx
set_option maxRecDepth 20000 in
set_option maxHeartbeats 4000000 in
theorem walkFnParity (A A2 : Option Addr) (n c n2 c2 : Nat) (w : World) (h1 : BytesIn w A n) (h2 : BytesIn w A2 n2) (hm : n ≤ maxLen) (hm2 : n2 ≤ maxLen) :
    Calls Try.prog 9 #[.slice A n c, .slice A2 n2 c2] w fun e w' => e = .returned (.bool true) ∧ Below w.heap.size w w' := by
  have HL := a2long A A2 n c n2 c2 w hm hm2
  cases hlong : (decide (3000 < n) || decide (3000 < n2))
  rotate_left
  · rw [hlong] at HL
    go_enter Try.func9, Try.ntmps9
    go_wp2_with (go_at_call 32; refine HL.mono ?_; rintro e w1 ⟨rfl, rfl⟩)
    go_ret
    exact ⟨rfl, Below.refl _ _⟩
  · rw [hlong] at HL
    simp only [Bool.or_eq_false_iff, decide_eq_false_iff_not] at hlong
    have hn1 : n ≤ 3000 := by omega
    have hn2 : n2 ≤ 3000 := by omega
    clear hlong hm hm2
    obtain ⟨i0, hi, hz0, hz1, hz2⟩ := info_parts scell_info
    go_enter Try.func9, Try.ntmps9
    go_wp2_with (go_at_call 32; refine HL.mono ?_; rintro e w1 ⟨rfl, rfl⟩)
    refine (a2group_s A n c _ h1 (by omega)).mono ?_; rintro e w1 ⟨v, l, rfl, O1, hg, hb1⟩
    obtain ⟨s0, hs0, hs1, hs2, hl1, hl2, hls⟩ := groupB_size hg
    obtain ⟨Ab, cb, rfl, hAb⟩ := OwnL.shape O1
    obtain ⟨g1, rfl, hg1w, hg1⟩ := hAb.resolve_left (by rintro rfl; simp at hl1)
    clear hAb h1 hs0
    have H2 := Lib.hid (h2.below hb1 (Nat.le_refl _))
    have z1 := hb1.size
    have HM := mk_i l (.slice (some ⟨g1, 0, none⟩) l.length cb) w1 (strL_own O1) (by omega)
    have HCk := fun w' (h : StrL w' (.slice (some ⟨g1, 0, none⟩) l.length cb) l) hp hq => ck_i l (mkR l).1 (mkR l).2.1 _ w' h (by omega) hp hq
    have hc0 : (mkR l).2.2 = 0 := by obtain ⟨s, hs, _⟩ := groupB_size hg; rw [mkR_yes hg hs]
    unfold mkV at HM
    rw [ck_law hg] at HCk
    rw [hc0] at HM
    have hpq : (mkR l).1.size ≤ 64 ∧ (mkR l).2.1.size ≤ 64 := by
      obtain ⟨s, hs, q1, q2, q3, q4, q5⟩ := groupB_size hg
      have hpl := (parF_len (n := s.size) (k := 0) (l := l) (p := List.replicate s.size 0) (q := List.replicate s.size 0) (by simp) (by simp) (fun t ht => .inr (q5 t ht)))
      rw [mkR_yes hg hs]
      simp only [strN_size]
      omega
    have HU : ∀ (k : Nat) (s s' : ByteArray), l[k]? = some s → s'.size = s.size → updR (mkR l).1 (mkR l).2.1 k s s' = .tuple #[.string (mkR (l.set k s')).1, .string (mkR (l.set k s')).2.1, .int .i64 0] ∧ (mkR (l.set k s')).2.2 = 0 := fun k s s' hk hs => by
      have h0 : (mkR (l.set k s')).2.2 = 0 := by obtain ⟨t, ht, _⟩ := groupB_size (group_set hg hk hs); rw [mkR_yes (group_set hg hk hs) ht]
      refine ⟨(upd_law hg hk hs).trans ?_, h0⟩
      unfold mkV; rw [h0]
    have hne0 : ([] : List ByteArray) ++ l ≠ [] := by intro h; rw [List.nil_append] at h; rw [h] at hl1; simp at hl1
    have HNE := Lib.hid hne0
    clear hne0
    have HO1 := Lib.hid O1
    have HHU := Lib.hid HU
    have HHC := Lib.hid HCk
    clear O1 HU HCk hc0 h2
    generalize (mkR l).1 = p at *
    generalize (mkR l).2.1 = q at *
    go_wp2_with (fail)
    refine HM.mono ?_; rintro e w2 ⟨rfl, hb2⟩
    have z2 := hb2.size
    go_wp2_with (fail)
    refine (HHC.out w2 ((strL_own HO1.out).below hb2 (Nat.le_refl _)) (by omega) (by omega)).mono ?_; rintro e w3 ⟨rfl, hb3⟩
    have z3 := hb3.size
    have b13 : Below w1.heap.size w1 w3 := hb2.trans (hb3.mono z2)
    go_wp2_with (fail)
    refine (a2byte A2 n2 c2 0 l.length w3 (H2.out.below b13 (Nat.le_refl _)) (by omega) (by omega) (by omega)).mono ?_; rintro e w4 ⟨k, hk, rfl, rfl⟩
    have hkl : k < l.length := by omega
    obtain ⟨s, hs⟩ : ∃ s, l[k]? = some s := ⟨l[k], List.getElem?_eq_getElem hkl⟩
    have hsz : s.size ≤ 64 := by have := hls s (List.mem_of_getElem? hs); omega
    have pk : w3.cell? ⟨g1, k, none⟩ = some (.string s) := (b13.cell (p := ⟨g1, k, none⟩) hg1).trans (HO1.out.at_ rfl hs)
    obtain ⟨cc, wb, hcv, hbuf, hbb, hzb⟩ := buf_of_str w3 s
    have hbl := bts_len s
    have HS := Lib.hid hs
    clear hs hk
    go_wp2_with (fail)
    go_loopw [13] (fun i wr => ∃ (j : Nat) (bl : List Nat), j ≤ s.size ∧ i = .int .i64 j ∧ bl.length = s.size ∧ (∀ x ∈ bl, x < 256) ∧ Buf wr w3.heap.size bl ∧ Below w3.heap.size w3 wr ∧ w3.heap.size < wr.heap.size) (fun i _ => s.size - (intOf i).toNat)
    case atStart => exact ⟨0, bts s, by omega, rfl, hbl, bts_lt, hbuf, hbb, by omega⟩
    case round =>
      clear hbuf hbb hzb hcv
      obtain ⟨j, bl, hj, rfl, hbl2, hblt, HB, hb5, hz5⟩ := hrel
      by_cases hcond : j < s.size ∧ j < n2
      · obtain ⟨hj1, hj2⟩ := hcond
        obtain ⟨b, o, rfl, hbw, hc⟩ := H2.out.resolve_left (by omega)
        obtain ⟨x, hx, px⟩ := hc j hj2
        have px5 := (hb5.cell (p := ⟨b, o + j, none⟩) (by show b < _; omega)).trans ((b13.cell (p := ⟨b, o + j, none⟩) hbw).trans px)
        obtain ⟨y, hy⟩ : ∃ y, bl[j]? = some y := ⟨bl[j]'(by omega), List.getElem?_eq_getElem (by omega)⟩
        obtain ⟨q1, q2⟩ := HB j y hy
        have HB2 := Lib.hid (HB.set x hy)
        clear hc px HB hy
        go_wp2
        go_roundw
        case rel => exact ⟨j + 1, bl.set j x, by omega, by go_num, by simpa using hbl2, set_lt hblt hx, HB2.out, (by repeat (first | exact Below.refl _ _ | refine Below.alloc ?_ (by first | omega | (simp; done) | (simp; omega)) _ | apply Below.drew | apply below_drewN | refine Below.setCell ?_ (by first | omega | (simp; done) | (simp; omega)) _ | refine Below.trans ?_ (Below.mono (by assumption) (by first | omega | (simp; done) | (simp; omega))))), by simpa using hz5⟩
        case measure => simp [intOf]; omega
      · by_cases hj1 : j < s.size
        · have hj2 : ¬ j < n2 := fun h => hcond ⟨hj1, h⟩
          clear hcond
          have b15 : Below w1.heap.size w1 wr := b13.trans (hb5.mono (by omega))
          have O5 := Lib.hid (OwnL.below HO1.out b15)
          obtain ⟨hu, hu0⟩ := HHU.out k s (strN bl) HS.out (by rw [strN_size]; exact hbl2)
          have hB5 : Below w.heap.size w wr := hb1.trans (b15.mono z1)
          have pk5 : wr.cell? ⟨g1, k, none⟩ = some (.string s) := (b15.cell (p := ⟨g1, k, none⟩) hg1).trans (HO1.out.at_ rfl HS.out)
          have hzr : w1.heap.size ≤ wr.heap.size := by omega
          have HBB := Lib.hid HB
          clear HB
          go_wp2_with (at_builtin; go_loud (refine wpList_appAll scell 1 scell_len _ rfl _ _ _ rfl wr.heap.size w.heap.size 9 9 i0 (.string .empty) 16 Try.underlying25 hi hz0 hz1 hz2 rfl (by omega) _ [] rfl (OwnL.of_empty wr (Nat.le_refl _)) _ l rfl (O5.out.alloc _) (by intro b u hu; simp [scell] at hu; subst hu; simp [Value.oneCell']) (by simp; omega) (by omega) (by simp) ?_; intro v' w6 how6 hg6; obtain ⟨Aq, cq, rfl, hAq⟩ := OwnL.shape how6; obtain ⟨g6, rfl, hg6a, hg6b⟩ := hAq.resolve_left HNE.out; have hg6' : (wr.alloc (.cells #[] 9)).grownBy w6 (some wr.heap.size) := hg6; clear hg6 hAq; have B6 : Below w.heap.size w w6 := (hB5.alloc (by omega) (.cells #[] 9)).grown hg6' (by first | omega | (simp; done) | (simp; omega)) (fun q hq => by (cases hq; omega)); have hblk : ∀ q, q < wr.heap.size → w6.heap[q]? = wr.heap[q]? := fun q hq => (hg6'.block q (by first | omega | (simp; done) | (simp; omega)) (by intro e; cases e; omega)).trans ((World.grownBy_alloc wr (.cells #[] 9) none).block q hq (by simp)); have hz6 : wr.heap.size ≤ w6.heap.size := (Nat.le_trans (by simp) hg6'.size); have pk6 : w6.cell? ⟨g1, k, none⟩ = some (.string s) := (World.cell?_of_block (a := ⟨g1, k, none⟩) (hblk g1 (by omega))).trans pk5; have hst := (HBB.out.block (hblk _ (by omega))).str (n := s.size) (c := cc) hbl2; rw [List.nil_append] at how6; have c6 : w6.cell? ⟨g6, k, none⟩ = some (.string s) := StringL.at_ how6 rfl HS.out; have f6 : w6.frozen? ⟨g6, k, none⟩ = false := OwnL.frozen how6))
          have O7 := StringL.set (k := k) how6 rfl (strN bl)
          have pk7 : (w6.setCell ⟨g6, k, none⟩ (.string (strN bl))).cell? ⟨g1, k, none⟩ = some (.string s) := (World.cell?_setCell_other _ _ _ _ (by intro e; injection e with e _ _; omega)).trans pk6
          have pm7 : (w6.setCell ⟨g6, k, none⟩ (.string (strN bl))).cell? ⟨g6, k, none⟩ = some (.string (strN bl)) := World.cell?_setCell_same _ _ _ c6
          have B7 : Below w.heap.size w (w6.setCell ⟨g6, k, none⟩ (.string (strN bl))) := B6.setCell (by show w.heap.size ≤ g6; omega) _
          clear how6 hblk
          have hls' : (l.set k (strN bl)).length = l.length := List.length_set
          have HM2 := fun (w' : World) (h : StrL w' (.slice (some ⟨g6, 0, none⟩) l.length cq) (l.set k (strN bl))) => mk_i (l.set k (strN bl)) _ w' h (by omega)
          unfold mkV at HM2
          rw [hu0] at HM2
          have HUP := fun w' => update_i p q s (strN bl) (k : Int) w' (by omega)
          rw [hu] at HUP
          have HO7 := Lib.hid O7
          have HHM2 := Lib.hid HM2
          have HHUP := Lib.hid HUP
          clear O7 HM2 HUP hu
          generalize (mkR (l.set k (strN bl))).1 = p' at *
          generalize (mkR (l.set k (strN bl))).2.1 = q' at *
          go_wp2_with (fail)
          generalize hw7 : w6.setCell ⟨g6, k, none⟩ (.string (strN bl)) = w7 at *
          clear hw7
          have hg1w7 : g1 < w7.heap.size := World.block_lt_of_cell? w7 _ pk7
          have hg6w7 : g6 < w7.heap.size := World.block_lt_of_cell? w7 _ pm7
          go_region_held3 (fun w' => w'.cell? ⟨g1, k, none⟩ = some (.string s) ∧ w'.cell? ⟨g6, k, none⟩ = some (.string (strN bl)))
            (first | go_keep | exact ⟨(hb8.cell (p := ⟨g1, k, none⟩) hg1w7).trans pk7, (hb8.cell (p := ⟨g6, k, none⟩) hg6w7).trans pm7⟩)
            (first | (go_at_call 13; refine (HHUP.out _).mono ?_; rintro e w8 ⟨rfl, hb8⟩))
          have z8 : w7.heap.size ≤ w8.heap.size := hb8.size
          have B8 : Below w.heap.size w w8 := (B7.drew).trans (hb8.mono B7.size)
          have O8 : StringL wr.heap.size w8 (.slice (some ⟨g6, 0, none⟩) (l.set k (strN bl)).length cq) (l.set k (strN bl)) := OwnL.below (w := w7.drew) (by rw [hls']; exact HO7.out) hb8
          rw [hls'] at O8
          go_wp2_with (fail)
          refine (HHM2.out w8 (by have := strL_own (by rw [← hls'] at O8; exact O8); rw [hls'] at this; exact this)).mono ?_; rintro e w9 ⟨rfl, hb9⟩
          go_wp2
          go_ret
          exact ⟨rfl, B8.trans (hb9.mono B8.size)⟩
        · clear hcond
          have b15 : Below w1.heap.size w1 wr := b13.trans (hb5.mono (by omega))
          have O5 := Lib.hid (OwnL.below HO1.out b15)
          obtain ⟨hu, hu0⟩ := HHU.out k s (strN bl) HS.out (by rw [strN_size]; exact hbl2)
          have hB5 : Below w.heap.size w wr := hb1.trans (b15.mono z1)
          have pk5 : wr.cell? ⟨g1, k, none⟩ = some (.string s) := (b15.cell (p := ⟨g1, k, none⟩) hg1).trans (HO1.out.at_ rfl HS.out)
          have hzr : w1.heap.size ≤ wr.heap.size := by omega
          have HBB := Lib.hid HB
          clear HB
          go_wp2_with (at_builtin; go_loud (refine wpList_appAll scell 1 scell_len _ rfl _ _ _ rfl wr.heap.size w.heap.size 9 9 i0 (.string .empty) 16 Try.underlying25 hi hz0 hz1 hz2 rfl (by omega) _ [] rfl (OwnL.of_empty wr (Nat.le_refl _)) _ l rfl (O5.out.alloc _) (by intro b u hu; simp [scell] at hu; subst hu; simp [Value.oneCell']) (by simp; omega) (by omega) (by simp) ?_; intro v' w6 how6 hg6; obtain ⟨Aq, cq, rfl, hAq⟩ := OwnL.shape how6; obtain ⟨g6, rfl, hg6a, hg6b⟩ := hAq.resolve_left HNE.out; have hg6' : (wr.alloc (.cells #[] 9)).grownBy w6 (some wr.heap.size) := hg6; clear hg6 hAq; have B6 : Below w.heap.size w w6 := (hB5.alloc (by omega) (.cells #[] 9)).grown hg6' (by first | omega | (simp; done) | (simp; omega)) (fun q hq => by (cases hq; omega)); have hblk : ∀ q, q < wr.heap.size → w6.heap[q]? = wr.heap[q]? := fun q hq => (hg6'.block q (by first | omega | (simp; done) | (simp; omega)) (by intro e; cases e; omega)).trans ((World.grownBy_alloc wr (.cells #[] 9) none).block q hq (by simp)); have hz6 : wr.heap.size ≤ w6.heap.size := (Nat.le_trans (by simp) hg6'.size); have pk6 : w6.cell? ⟨g1, k, none⟩ = some (.string s) := (World.cell?_of_block (a := ⟨g1, k, none⟩) (hblk g1 (by omega))).trans pk5; have hst := (HBB.out.block (hblk _ (by omega))).str (n := s.size) (c := cc) hbl2; rw [List.nil_append] at how6; have c6 : w6.cell? ⟨g6, k, none⟩ = some (.string s) := StringL.at_ how6 rfl HS.out; have f6 : w6.frozen? ⟨g6, k, none⟩ = false := OwnL.frozen how6))
          have O7 := StringL.set (k := k) how6 rfl (strN bl)
          have pk7 : (w6.setCell ⟨g6, k, none⟩ (.string (strN bl))).cell? ⟨g1, k, none⟩ = some (.string s) := (World.cell?_setCell_other _ _ _ _ (by intro e; injection e with e _ _; omega)).trans pk6
          have pm7 : (w6.setCell ⟨g6, k, none⟩ (.string (strN bl))).cell? ⟨g6, k, none⟩ = some (.string (strN bl)) := World.cell?_setCell_same _ _ _ c6
          have B7 : Below w.heap.size w (w6.setCell ⟨g6, k, none⟩ (.string (strN bl))) := B6.setCell (by show w.heap.size ≤ g6; omega) _
          clear how6 hblk
          have hls' : (l.set k (strN bl)).length = l.length := List.length_set
          have HM2 := fun (w' : World) (h : StrL w' (.slice (some ⟨g6, 0, none⟩) l.length cq) (l.set k (strN bl))) => mk_i (l.set k (strN bl)) _ w' h (by omega)
          unfold mkV at HM2
          rw [hu0] at HM2
          have HUP := fun w' => update_i p q s (strN bl) (k : Int) w' (by omega)
          rw [hu] at HUP
          have HO7 := Lib.hid O7
          have HHM2 := Lib.hid HM2
          have HHUP := Lib.hid HUP
          clear O7 HM2 HUP hu
          generalize (mkR (l.set k (strN bl))).1 = p' at *
          generalize (mkR (l.set k (strN bl))).2.1 = q' at *
          go_wp2_with (fail)
          generalize hw7 : w6.setCell ⟨g6, k, none⟩ (.string (strN bl)) = w7 at *
          clear hw7
          have hg1w7 : g1 < w7.heap.size := World.block_lt_of_cell? w7 _ pk7
          have hg6w7 : g6 < w7.heap.size := World.block_lt_of_cell? w7 _ pm7
          go_region_held3 (fun w' => w'.cell? ⟨g1, k, none⟩ = some (.string s) ∧ w'.cell? ⟨g6, k, none⟩ = some (.string (strN bl)))
            (first | go_keep | exact ⟨(hb8.cell (p := ⟨g1, k, none⟩) hg1w7).trans pk7, (hb8.cell (p := ⟨g6, k, none⟩) hg6w7).trans pm7⟩)
            (first | (go_at_call 13; refine (HHUP.out _).mono ?_; rintro e w8 ⟨rfl, hb8⟩))
          have z8 : w7.heap.size ≤ w8.heap.size := hb8.size
          have B8 : Below w.heap.size w w8 := (B7.drew).trans (hb8.mono B7.size)
          have O8 : StringL wr.heap.size w8 (.slice (some ⟨g6, 0, none⟩) (l.set k (strN bl)).length cq) (l.set k (strN bl)) := OwnL.below (w := w7.drew) (by rw [hls']; exact HO7.out) hb8
          rw [hls'] at O8
          go_wp2_with (fail)
          refine (HHM2.out w8 (by have := strL_own (by rw [← hls'] at O8; exact O8); rw [hls'] at this; exact this)).mono ?_; rintro e w9 ⟨rfl, hb9⟩
          go_wp2
          go_ret
          exact ⟨rfl, B8.trans (hb9.mono B8.size)⟩
end Go.Proofs.Ytkdadaocbfbndaa
