/- slices.Compare, covers, FewestDumps of the implementation: the walks. -/
import Derived.Test.YtignjjkldmninaaFewLaw
import Derived.Test.YtignjjkldmninaaCols
import Derived.Test.YtignjjkldmninaaHInt64
import Derived.Test.YtignjjkldmninaaBits
namespace Go.Proofs.Ytignjjkldmninaa
set_option linter.unusedVariables false
open Go.RowKit
theorem cmp_c (x y : Int) (w : World) : Calls Try.prog 120 #[.int .i64 x, .int .i64 y] w fun e w' => e = .returned (.int .i64 (cmpI x y)) ∧ w = w' := by
  by_cases h1 : x < y
  · have HX : Hid (cmpI x y = -1) := Lib.hid (by unfold cmpI; rw [if_pos h1])
    have hd : decide (x < y) = true := decide_eq_true h1
    go_enter Try.func120, Try.ntmps120
    go_wp2_with (go_in)
    go_ret
    exact ⟨ret_int HX.out.symm, rfl⟩
  · have hd : decide (x < y) = false := decide_eq_false h1
    by_cases h2 : y < x
    · have HX : Hid (cmpI x y = 1) := Lib.hid (by unfold cmpI; rw [if_neg h1, if_pos h2])
      have hd2 : decide (y < x) = true := decide_eq_true h2
      go_enter Try.func120, Try.ntmps120
      go_wp2_with (go_in)
      go_ret
      exact ⟨ret_int HX.out.symm, rfl⟩
    · have HX : Hid (cmpI x y = 0) := Lib.hid (by unfold cmpI; rw [if_neg h1, if_neg h2])
      have hd2 : decide (y < x) = false := decide_eq_false h2
      go_enter Try.func120, Try.ntmps120
      go_wp2_with (go_in)
      go_ret
      exact ⟨ret_int HX.out.symm, rfl⟩
theorem cf_yes {a b : List Int} {k : Nat} {x y : Int} (ha : a[k]? = some x) (hb : b[k]? = some y) (H : Hid (cmpF a b = cmpF (a.drop k) (b.drop k))) (h : (cmpI x y != 0) = true) : cmpF a b = cmpI x y := by
  obtain ⟨hk, rfl⟩ := List.getElem?_eq_some_iff.1 ha
  obtain ⟨hj, rfl⟩ := List.getElem?_eq_some_iff.1 hb
  rw [H.out, List.drop_eq_getElem_cons hk, List.drop_eq_getElem_cons hj, cmpF, if_pos h]
theorem cf_no {a b : List Int} {k : Nat} {x y : Int} (ha : a[k]? = some x) (hb : b[k]? = some y) (H : Hid (cmpF a b = cmpF (a.drop k) (b.drop k))) (h : (cmpI x y != 0) = false) : Hid (cmpF a b = cmpF (a.drop (k + 1)) (b.drop (k + 1))) := by
  obtain ⟨hk, rfl⟩ := List.getElem?_eq_some_iff.1 ha
  obtain ⟨hj, rfl⟩ := List.getElem?_eq_some_iff.1 hb
  exact Lib.hid (by rw [H.out, List.drop_eq_getElem_cons hk, List.drop_eq_getElem_cons hj, cmpF, if_neg (by rw [h]; decide)])
set_option maxHeartbeats 2000000 in
theorem comp_c (Ba Bb : Nat) (a b : List Int) (va vb : Value) (w : World) (ha : Int64L Ba w va a) (hb : Int64L Bb w vb b) (hl : b.length = a.length) (hn : a.length ≤ 1048576) :
    Calls Try.prog 97 #[va, vb] w fun e w' => e = .returned (.int .i64 (cmpF a b)) ∧ w = w' := by
  obtain ⟨A, c, rfl, hA⟩ := OwnL.shape ha
  obtain ⟨A', c', hv', hA'⟩ := OwnL.shape hb
  rw [hl] at hv'
  subst hv'
  by_cases h0 : a = []
  · subst h0
    obtain rfl : b = [] := List.eq_nil_of_length_eq_zero (by simpa using hl)
    go_enter Try.func97, Try.ntmps97
    go_wp2
    refine wp_loop_once ?_
    go_wp2
    go_ret
    exact ⟨rfl, rfl⟩
  · obtain ⟨g, rfl, _, hg⟩ := hA.resolve_left h0
    obtain ⟨g', rfl, _, hg'⟩ := hA'.resolve_left (by rintro rfl; exact h0 (List.eq_nil_of_length_eq_zero (by simpa using hl.symm)))
    have HA := Lib.hid (fun k x (hk : a[k]? = some x) => OwnL.cell (j := 0) icell_len ha hk rfl)
    have HB := Lib.hid (fun k x (hk : b[k]? = some x) => OwnL.cell (j := 0) icell_len (by rw [← hl] at hb; exact hb) hk rfl)
    clear ha hb hA hA'
    go_enter Try.func97, Try.ntmps97
    go_wp2
    go_loop [11] (fun i => ∃ k : Nat, k ≤ a.length ∧ i = .int .i64 k ∧ Hid (cmpF a b = cmpF (a.drop k) (b.drop k))) (fun i => a.length - (intOf i).toNat)
    case atStart => exact ⟨0, by omega, rfl, Lib.hid rfl⟩
    case round =>
      obtain ⟨k, hk, rfl, HK⟩ := hrel
      by_cases hlt : k < a.length
      · obtain ⟨x, hx⟩ : ∃ x, a[k]? = some x := ⟨a[k], List.getElem?_eq_getElem hlt⟩
        obtain ⟨y, hy⟩ : ∃ y, b[k]? = some y := ⟨b[k]'(by omega), List.getElem?_eq_getElem (by omega)⟩
        have p0 : w.cell? ⟨g, k, none⟩ = some (.int .i64 x) := by simpa using HA.out k x hx
        have p1 : w.cell? ⟨g', k, none⟩ = some (.int .i64 y) := by simpa using HB.out k y hy
        have HX := Lib.hid hx
        have HY := Lib.hid hy
        clear hx hy
        cases hc : (cmpI x y != 0)
        · have HN := cf_no HX.out HY.out HK hc
          have HC := Lib.hid (cmp_c x y w)
          generalize cmpI x y = z at *
          go_wp2_with (go_at_call 120; refine HC.out.mono ?_; rintro e w1 ⟨rfl, rfl⟩)
          go_round
          case rel => exact ⟨k + 1, by omega, by go_num, HN⟩
          case measure => simp [intOf]; omega
        · have HN := Lib.hid (cf_yes HX.out HY.out HK hc)
          have HC := Lib.hid (cmp_c x y w)
          generalize cmpI x y = z at *
          go_wp2_with (go_at_call 120; refine HC.out.mono ?_; rintro e w1 ⟨rfl, rfl⟩)
          go_ret
          exact ⟨ret_int HN.out.symm, rfl⟩
      · have HX : Hid (cmpF a b = 0) := Lib.hid (by rw [HK.out, List.drop_of_length_le (by omega)]; rfl)
        go_wp2
        go_ret
        exact ⟨ret_int HX.out.symm, rfl⟩
def idxG (f : Int → Bool) : Nat → List Int → Int
  | _, [] => -1
  | k, x :: r => if f x = true then k else idxG f (k + 1) r
theorem idxG_any (f : Int → Bool) (k : Nat) (l : List Int) : decide (0 ≤ idxG f k l) = l.any f := by
  induction l generalizing k with
  | nil => rfl
  | cons x r ih =>
    unfold idxG
    rw [List.any_cons]
    by_cases h : f x = true
    · rw [if_pos h, h]; simp
    · rw [if_neg h, ih, Bool.eq_false_iff.2 h, Bool.false_or]
theorem ig_yes {f : Int → Bool} {k : Nat} {l : List Int} {x : Int} (hx : l[k]? = some x) (H : Hid (idxG f 0 l = idxG f k (l.drop k))) (h : f x = true) : idxG f 0 l = k := by
  obtain ⟨hk, rfl⟩ := List.getElem?_eq_some_iff.1 hx
  rw [H.out, List.drop_eq_getElem_cons hk, idxG, if_pos h]
theorem ig_no {f : Int → Bool} {k : Nat} {l : List Int} {x : Int} (hx : l[k]? = some x) (H : Hid (idxG f 0 l = idxG f k (l.drop k))) (h : f x = false) : Hid (idxG f 0 l = idxG f (k + 1) (l.drop (k + 1))) := by
  obtain ⟨hk, rfl⟩ := List.getElem?_eq_some_iff.1 hx
  exact Lib.hid (by rw [H.out, List.drop_eq_getElem_cons hk, idxG, if_neg (by rw [h]; decide)])
set_option maxHeartbeats 2000000 in
theorem idx_c (Bs Bc bx g c : Nat) (l : List Int) (cl : List Sec) (vs : Value) (w : World) (hs : Int64L Bs w vs l) (hn : l.length ≤ 1048576) (hx : ∀ x ∈ l, 0 ≤ x ∧ x < cl.length) (hcl : cl.length ≤ 1048576)
    (hc : SecOwn Bc w (.slice (some ⟨g, 0, none⟩) cl.length c) cl) (hbx : w.cell? ⟨bx, 0, none⟩ = some (.slice (some ⟨g, 0, none⟩) cl.length c)) :
    Calls Try.prog 135 #[vs, .func (.func 122) #[] #[.pointer (some ⟨bx, 0, none⟩)]] w fun e w' => e = .returned (.int .i64 (idxG (fun i => (cl.getD i.toNat secZ).state == 1) 0 l)) ∧ w = w' := by
  obtain ⟨A, c', rfl, hA⟩ := OwnL.shape hs
  by_cases h0 : l = []
  · subst h0
    go_enter Try.func135, Try.ntmps135
    go_wp2
    refine wp_loop_once ?_
    go_wp2
    go_ret
    exact ⟨rfl, rfl⟩
  · obtain ⟨gs, rfl, _, hgs⟩ := hA.resolve_left h0
    have HA := Lib.hid (fun k x (hk : l[k]? = some x) => OwnL.cell (j := 0) icell_len hs hk rfl)
    have HC := Lib.hid (fun k s (hk : cl[k]? = some s) => OwnL.cell (j := 1) Sec.len hc hk rfl)
    have HX := Lib.hid hx
    generalize hf : (fun i : Int => (cl.getD i.toNat secZ).state == 1) = f
    have HF := Lib.hid hf
    clear hs hc hA hx hf
    go_enter Try.func135, Try.ntmps135
    go_wp2
    go_loop [8] (fun i => ∃ k : Nat, k ≤ l.length ∧ i = .int .i64 k ∧ Hid (idxG f 0 l = idxG f k (l.drop k))) (fun i => l.length - (intOf i).toNat)
    case atStart => exact ⟨0, by omega, rfl, Lib.hid rfl⟩
    case round =>
      obtain ⟨k, hk, rfl, HK⟩ := hrel
      by_cases hlt : k < l.length
      · obtain ⟨x, hxk⟩ : ∃ x, l[k]? = some x := ⟨l[k], List.getElem?_eq_getElem hlt⟩
        obtain ⟨x0, x1⟩ := HX.out x (List.mem_of_getElem? hxk)
        obtain ⟨m, rfl⟩ : ∃ m : Nat, x = (m : Int) := ⟨x.toNat, by omega⟩
        have hm : m < cl.length := by omega
        have p0 : w.cell? ⟨gs, k, none⟩ = some (.int .i64 (m : Int)) := by simpa using HA.out k _ hxk
        have p1 : w.cell? ⟨g, m * 2 + 1, none⟩ = some (.int .i64 cl[m].state) := HC.out m _ (List.getElem?_eq_getElem hm)
        have hfm : f (m : Int) = (cl[m].state == 1) := by rw [← HF.out]; simp [List.getD_eq_getElem?_getD, List.getElem?_eq_getElem hm]
        have HXK := Lib.hid hxk
        generalize cl[m].state = st at *
        clear hxk
        cases hc : st == 1
        · have HN := ig_no HXK.out HK (hfm.trans hc)
          go_wp2
          go_round
          case rel => exact ⟨k + 1, by omega, by go_num, HN⟩
          case measure => simp [intOf]; omega
        · have HN := Lib.hid (ig_yes HXK.out HK (hfm.trans hc))
          go_wp2
          go_ret
          exact ⟨ret_int HN.out.symm, rfl⟩
      · have HX2 : Hid (idxG f 0 l = -1) := Lib.hid (by rw [HK.out, List.drop_of_length_le (by omega)]; rfl)
        go_wp2
        go_ret
        exact ⟨ret_int HX2.out.symm, rfl⟩
theorem cv_step {l : List Dsc} {s : List Int} {k n : Nat} {X : Bool} (hk : k < n) (H : Hid (X = covF l s k (n - k))) (h : covC l s k = true) : Hid (X = covF l s (k + 1) (n - (k + 1))) := by
  have e : n - k = (n - (k + 1)) + 1 := by omega
  exact Lib.hid (by rw [H.out, e, covF, h, Bool.true_and])
theorem cv_no {l : List Dsc} {s : List Int} {k n : Nat} {X : Bool} (hk : k < n) (H : Hid (X = covF l s k (n - k))) (h : covC l s k = false) : X = false := by
  have e : n - k = (n - (k + 1)) + 1 := by omega
  rw [H.out, e, covF, h, Bool.false_and]
theorem cv_end {l : List Dsc} {s : List Int} {k n : Nat} {X : Bool} (hk : n ≤ k) (H : Hid (X = covF l s k (n - k))) : X = true := by
  rw [H.out, show n - k = 0 by omega, covF]
set_option maxRecDepth 20000 in
set_option maxHeartbeats 4000000 in
theorem covers_i (B Bs : Nat) (l : List Dsc) (z : Dsc) (s : List Int) (v vs : Value) (w : World) (h : DscOwn B w v l) (hz : l[0]? = some z) (hs : Int64L Bs w vs s) (hn : l.length ≤ 5) (hN : z.secs.length ≤ 128) (hD : ∀ d ∈ l, d.secs.length = z.secs.length) (hsl : s.length ≤ 1048576) (hsx : ∀ x ∈ s, 0 ≤ x ∧ x < (l.length : Int)) :
    Calls Try.prog 98 #[v, vs] w fun e w' => e = .returned (.bool (covF l s 0 z.secs.length)) ∧ Below w.heap.size w w' := by
  have HO := Lib.hid h
  have HS := Lib.hid hs
  have HD := Lib.hid hD
  have HSX := Lib.hid hsx
  have hl1 : 0 < l.length := (List.getElem?_eq_some_iff.1 hz).1
  obtain ⟨A, c, rfl, hA⟩ := h
  obtain ⟨g, rfl, _, hg, hc⟩ := hA.resolve_left (by rintro rfl; cases hz)
  obtain ⟨bz, oz, cz⟩ := hc 0 z hz
  have pz : w.cell? ⟨g, 4, none⟩ = some bz := by have := cz 4 bz rfl; simpa using this
  obtain ⟨Az, cz', rfl, _⟩ := OwnL.shape oz
  obtain ⟨As, cs, rfl, _⟩ := OwnL.shape hs
  clear hA hc hz cz oz hs hD hsx
  go_enter Try.func98, Try.ntmps98
  go_wp2
  go_loopw [13] (fun i wr => ∃ k : Nat, k ≤ z.secs.length ∧ i = .int .i64 k ∧ Below w.heap.size w wr ∧ Hid (covF l s 0 z.secs.length = covF l s k (z.secs.length - k))) (fun i _ => z.secs.length - (intOf i).toNat)
  case atStart => exact ⟨0, by omega, rfl, Below.refl _ _, Lib.hid rfl⟩
  case round =>
    obtain ⟨k, hk, rfl, hb, HK⟩ := hrel
    by_cases hlt : k < z.secs.length
    · have zr := hb.size
      have HI := Lib.hid (col_i B k l _ wr (HO.out.below hb) (by omega) (fun d hd => by rw [HD.out d hd]; exact hlt))
      have hcl := col_len k l
      have hcv : covC l s k = ((s.any fun i => ((colF k l).getD i.toNat secZ).state == 1) || !decide (0 < (stF 1 (colF k l)).length)) := rfl
      have hsl1 := stF_len 1 (colF k l)
      generalize colF k l = cl at HI hcl hcv hsl1
      go_wp2_with (fail)
      refine HI.out.mono ?_; rintro e' w2 ⟨v2, rfl, o2, hb2⟩
      have z2 := hb2.size
      obtain ⟨A2, c2, hv2, hA2⟩ := OwnL.shape o2
      have HO2 := Lib.hid o2
      rw [hcl] at hv2
      subst hv2
      obtain ⟨g2, rfl, _, hg2⟩ := hA2.resolve_left (by intro h; rw [h] at hcl; simp at hcl; omega)
      have HBX : Below w2.heap.size w2 (w2.alloc (.cells #[.slice (some ⟨g2, 0, none⟩) l.length c2] 37)) := Below.alloc (Below.refl _ _) (Nat.le_refl _) _
      have HBA : Below w.heap.size w (w2.alloc (.cells #[.slice (some ⟨g2, 0, none⟩) l.length c2] 37)) := Below.alloc (hb.trans (hb2.mono zr)) (by omega) _
      have HX := Lib.hid (idx_c Bs wr.heap.size w2.heap.size g2 c2 s cl (.slice As s.length cs) (w2.alloc (.cells #[.slice (some ⟨g2, 0, none⟩) l.length c2] 37)) (OwnL.below HS.out (HBA.mono (by omega))) hsl (fun x hx => by rw [hcl]; exact HSX.out x hx) (by omega) (by rw [hcl]; exact OwnL.below HO2.out HBX) (by rw [hcl]; simp))
      have HG := Lib.hid (good_i wr.heap.size (.slice (some ⟨g2, 0, none⟩) l.length c2) cl (w2.alloc (.cells #[.slice (some ⟨g2, 0, none⟩) l.length c2] 37)) (by omega) (OwnL.below HO2.out HBX))
      have HAN := Lib.hid (idxG_any (fun i => (cl.getD i.toNat secZ).state == 1) 0 s)
      generalize idxG (fun i => (cl.getD i.toNat secZ).state == 1) 0 s = y at HX HAN
      generalize hfa : (s.any fun i => (cl.getD i.toNat secZ).state == 1) = fa at HAN hcv
      clear hfa
      cases fa with
      | true =>
        have hy : decide (0 ≤ y) = true := HAN.out
        have HN := cv_step hlt HK (by rw [hcv]; rfl)
        go_wp2_with (first | (go_at_call 135; refine HX.out.mono ?_; rintro e w1 ⟨rfl, rfl⟩) | go_in)
        go_roundw
        case rel => exact ⟨k + 1, by omega, by go_num, HBA, HN⟩
        case measure => simp [intOf]; omega
      | false =>
        have hy : decide (0 ≤ y) = false := HAN.out
        by_cases hp : 0 < (stF 1 cl).length
        · have hd : decide ((0 : Int) < ((stF 1 cl).length : Int)) = true := decide_eq_true (by omega)
          have HN := Lib.hid (cv_no hlt HK (by rw [hcv, decide_eq_true hp]; rfl))
          go_wp2_with (first | (go_at_call 135; refine HX.out.mono ?_; rintro e w1 ⟨rfl, rfl⟩) | (go_at_call 75; refine HG.out.mono ?_; rintro e w4 ⟨v4, rfl, o4, hb4⟩; obtain ⟨A4, c4, rfl, _⟩ := OwnL.shape o4) | go_in)
          go_ret
          exact ⟨ret_bool HN.out.symm, HBA.trans (hb4.mono (by simp; omega))⟩
        · have hd : decide ((0 : Int) < ((stF 1 cl).length : Int)) = false := decide_eq_false (by omega)
          have HN := cv_step hlt HK (by rw [hcv, decide_eq_false hp]; rfl)
          go_wp2_with (first | (go_at_call 135; refine HX.out.mono ?_; rintro e w1 ⟨rfl, rfl⟩) | (go_at_call 75; refine HG.out.mono ?_; rintro e w4 ⟨v4, rfl, o4, hb4⟩; obtain ⟨A4, c4, rfl, _⟩ := OwnL.shape o4) | go_in)
          go_roundw
          case rel => exact ⟨k + 1, by omega, by go_num, HBA.trans (hb4.mono (by simp; omega)), HN⟩
          case measure => simp [intOf]; omega
    · have HX := Lib.hid (cv_end (by omega) HK)
      go_wp2
      go_ret
      exact ⟨ret_bool HX.out.symm, hb⟩
theorem im_step {cov : Nat → Bool} {st : Nat → List Int} {f : Bool} {b : List Int} {x n : Nat} {X : List Int} (hx : x < n) (H : Hid (X = impF cov st f b ((List.range n).drop x))) : Hid (X = if ((!f || lessB (st x) b) && cov x) = true then impF cov st true (st x) ((List.range n).drop (x + 1)) else impF cov st f b ((List.range n).drop (x + 1))) := by
  have e : (List.range n).drop x = x :: (List.range n).drop (x + 1) := by rw [List.drop_eq_getElem_cons (by simpa using hx)]; simp
  exact Lib.hid (by rw [H.out, e, impF])
theorem im_yes {cov : Nat → Bool} {st : Nat → List Int} {f : Bool} {b : List Int} {x n : Nat} {X : List Int} (hx : x < n) (H : Hid (X = impF cov st f b ((List.range n).drop x))) (h1 : (!f || lessB (st x) b) = true) (h2 : cov x = true) : Hid (X = impF cov st true (st x) ((List.range n).drop (x + 1))) := by
  have := (im_step hx H).out
  rw [h1, h2] at this
  exact Lib.hid this
theorem im_no {cov : Nat → Bool} {st : Nat → List Int} {f : Bool} {b : List Int} {x n : Nat} {X : List Int} (hx : x < n) (H : Hid (X = impF cov st f b ((List.range n).drop x))) (h : ((!f || lessB (st x) b) && cov x) = false) : Hid (X = impF cov st f b ((List.range n).drop (x + 1))) := by
  have := (im_step hx H).out
  rw [h, if_neg (by decide)] at this
  exact Lib.hid this
theorem im_end {cov : Nat → Bool} {st : Nat → List Int} {f : Bool} {b : List Int} {x n : Nat} {X : List Int} (hx : n ≤ x) (H : Hid (X = impF cov st f b ((List.range n).drop x))) : X = b := by
  rw [H.out, List.drop_of_length_le (by simpa using hx), impF]
set_option maxRecDepth 20000 in
set_option maxHeartbeats 8000000 in
theorem few_i (B : Nat) (l : List Dsc) (v : Value) (w : World) (h : DscOwn B w v l) (hn : l.length ≤ 1048576) (hb2 : ∀ d ∈ l, d.secs.length ≤ 1048576) (hm : ∀ d ∈ l, ∀ s ∈ d.secs, s.data.size ≤ maxLen) :
    Calls Try.prog 52 #[v] w fun e w' => RInt64S.retI w (fewE l).1 (fewE l).2 e w' := by
  obtain ⟨i0, hi, hz0, hz1, hz2⟩ := info_parts icell_info
  have HV := Lib.hid (dumps_i B l v w h hn hb2 hm)
  cases hok : dumpsOk l
  · have HF : Hid (fewE l = ([], 1)) := Lib.hid (by unfold fewE; rw [hok]; rfl)
    obtain ⟨A, c, rfl, _⟩ := h
    rw [hok] at HV
    go_enter Try.func52, Try.ntmps52
    go_wp2_with (fail)
    refine HV.out.mono ?_; rintro e w1 ⟨rfl, hb1⟩
    go_wp2
    exact bodyPost_ret (v := .tuple #[.slice none 0 0, .int .i64 1]) (by simp [results, Try.results52, go_sem]) rfl ⟨_, by rw [HF.out], by rw [HF.out]; exact ⟨OwnL.of_nil, by simp [Value.ownBlock]⟩, hb1⟩
  · have HF : Hid (fewE l = (speF (fewCov l (l.headD default).secs.length) (fun b => setG b 0 l.length) (setG (2 ^ l.length - 1) 0 l.length) (List.range (2 ^ l.length - 1)), 0)) := Lib.hid (by unfold fewE; rw [hok]; rfl)
    obtain ⟨z, hz⟩ := du_first hok
    have hzd : l.headD default = z := by cases l with | nil => cases hz | cons a r => simpa using hz
    have hN : z.secs.length ≤ 128 := ok_le (du_mem hok hz (List.mem_of_getElem? hz)).1
    have hl5 := du_len hok
    have hl1 : 0 < l.length := (List.getElem?_eq_some_iff.1 hz).1
    have HD := Lib.hid (fun d (hd : d ∈ l) => du_secs hok hz hd)
    rw [hzd, ← few_imp hl5] at HF
    have HO := Lib.hid h
    have HZ := Lib.hid hz
    have hp1 : 0 < 2 ^ l.length := Nat.pow_pos (by omega)
    have hp2 : 2 ^ l.length ≤ 2 ^ 5 := Nat.pow_le_pow_right (by omega) hl5
    obtain ⟨al, hal⟩ : ∃ al : Nat, 2 ^ l.length = al := ⟨_, rfl⟩
    have hal32 : al ≤ 32 := by omega
    have hsh : wrap64 (2 ^ l.length) = (al : Int) := by
      have : ((2 : Int) ^ l.length) = ((2 ^ l.length : Nat) : Int) := by push_cast; rfl
      rw [this, wrap64_nat _ (by omega), hal]
    rw [hal] at HF
    obtain ⟨A, c, rfl, _⟩ := h
    rw [hok] at HV
    clear hz hzd hal hp1 hp2
    go_enter Try.func52, Try.ntmps52
    go_wp2_with (fail)
    refine HV.out.mono ?_; rintro e w1 ⟨rfl, hb1⟩
    have z1 := hb1.size
    go_wp2
    rw [hsh]
    clear hsh
    go_loopw [16, 5, 4] (fun i ff bb wr => ∃ (b : Nat) (f : Bool) (best : List Int), b ≤ al ∧ i = .int .i64 b ∧ ff = .bool f ∧ best.length ≤ l.length ∧ Below w.heap.size w wr ∧ Int64L w.heap.size wr bb best ∧ Hid (impF (fun b => covF l (setG b 0 l.length) 0 z.secs.length) (fun b => setG b 0 l.length) false [] (List.range al) = impF (fun b => covF l (setG b 0 l.length) 0 z.secs.length) (fun b => setG b 0 l.length) f best ((List.range al).drop b))) (fun i _ _ _ => al - (intOf i).toNat)
    case atStart => exact ⟨0, false, [], by omega, rfl, rfl, by simp, hb1, OwnL.of_nil, Lib.hid rfl⟩
    case round =>
      obtain ⟨b, f, best, hb, rfl, rfl, hlb, hbw, how, HK⟩ := hrel
      by_cases hlt : b < al
      · have zr := hbw.size
        generalize hwo : wr = wo at *
        clear hwo
        go_wp2
        go_loopw [21, 7] (fun i out wr => ∃ (k : Nat) (acc : List Int), k ≤ l.length ∧ i = .int .i64 k ∧ acc.length ≤ k ∧ Below wo.heap.size wo wr ∧ Int64L wo.heap.size wr out acc ∧ Hid (setG b 0 l.length = acc ++ setG b k (l.length - k))) (fun i _ _ => l.length - (intOf i).toNat)
        case atStart => exact ⟨0, [], by omega, rfl, by simp, Below.refl _ _, OwnL.of_nil, Lib.hid rfl⟩
        case round =>
          obtain ⟨k, acc, hk, rfl, hacc, hbq, hoq, HR⟩ := hrel
          have zq := hbq.size
          by_cases hkl : k < l.length
          · have HA := Lib.hid (bit_and b k (by omega))
            cases hc : b.testBit k
            · have HN := set_no hkl HR hc
              have hd : bits .and .i64 ((b : Int) / 2 ^ k) 1 = 0 := by rw [HA.out, hc]; rfl
              go_wp2
              go_roundw
              case rel => exact ⟨k + 1, acc, by omega, by go_num, by omega, hbq, hoq, HN⟩
              case measure => simp [intOf]; omega
            · have HN := set_yes hkl HR hc
              have hd : bits .and .i64 ((b : Int) / 2 ^ k) 1 = 1 := by rw [HA.out, hc]; rfl
              have HOQ := Lib.hid hoq
              clear hoq
              go_wp2_with (at_builtin; refine wpList_app1 icell 1 icell_len _ rfl _ _ _ rfl wo.heap.size 2 i0 (.int .i64 0) 8 Try.underlying32 hi hz0 hz1 hz2 rfl (by decide) _ acc rfl (HOQ.out.alloc _) _ 1 (k : Int) rfl ?_ (by simp [icell, Value.oneCell']) (by omega) (by omega) (by simp; omega) ?_; (· intro j u hu; cases j with | zero => (simp [icell] at hu; subst hu; simp) | succ j => simp [icell] at hu); intro v' w5 how2 hg2)
              go_roundw
              case rel => exact ⟨k + 1, acc ++ [(k : Int)], by omega, by go_num, by simp; omega, own_grown_below (HOQ.out.alloc _) (Below.alloc hbq (by omega) _) hg2 (Nat.le_refl _) (by simp; omega), how2, HN⟩
              case measure => simp [intOf]; omega
          · obtain rfl := set_end (by omega) HR
            have hset := set_len b 0 l.length
            have HBO := Lib.hid (OwnL.below how hbq)
            have HBA := Lib.hid (hbw.trans (hbq.mono zr))
            have HSO := Lib.hid hoq
            have HCV := Lib.hid (covers_i B wo.heap.size l z (setG b 0 l.length) _ _ wr (HO.out.below HBA.out) HZ.out hoq hl5 hN HD.out (by omega) (fun x hx => set_lt hx))
            have zba := HBA.out.size
            have hls : lessB (setG b 0 l.length) best = if ((setG b 0 l.length).length == best.length) = true then lexB (setG b 0 l.length) best else decide ((setG b 0 l.length).length < best.length) := rfl
            have hcl := cmp_lex (setG b 0 l.length) best
            obtain ⟨Ab, cb, rfl, _⟩ := OwnL.shape how
            obtain ⟨As, cs, rfl, _⟩ := OwnL.shape hoq
            have HCM := Lib.hid (fun hl => comp_c wo.heap.size w.heap.size (setG b 0 l.length) best _ _ wr hoq HBO.out hl (by omega))
            have HKX := Lib.hid (fun h1 h2 => im_yes (cov := fun b => covF l (setG b 0 l.length) 0 z.secs.length) (st := fun b => setG b 0 l.length) (f := f) (b := best) hlt HK h1 h2)
            have HKN := Lib.hid (fun h => im_no (cov := fun b => covF l (setG b 0 l.length) 0 z.secs.length) (st := fun b => setG b 0 l.length) (f := f) (b := best) hlt HK h)
            clear how hoq
            generalize covF l (setG b 0 l.length) 0 z.secs.length = cv at HCV HKX HKN
            generalize hS : setG b 0 l.length = S at *
            cases f with
            | false =>
              cases cv with
              | true =>
                have HN := HKX.out (rfl) rfl
                go_wp2_with (fail)
                refine HCV.out.mono ?_; rintro e' w6 ⟨rfl, hb6⟩
                go_wp2
                go_roundw
                case rel => exact ⟨b + 1, true, S, by omega, by go_num, rfl, by omega, HBA.out.trans (hb6.mono (by omega)), OwnL.base (OwnL.below HSO.out hb6) (by omega), HN⟩
                case measure => simp [intOf]; omega
              | false =>
                have HN := HKN.out (Bool.and_false _)
                go_wp2_with (fail)
                refine HCV.out.mono ?_; rintro e' w6 ⟨rfl, hb6⟩
                go_wp2
                go_roundw
                case rel => exact ⟨b + 1, _, best, by omega, by go_num, rfl, hlb, HBA.out.trans (hb6.mono (by omega)), OwnL.below HBO.out hb6, HN⟩
                case measure => simp [intOf]; omega
            | true =>
              by_cases h1 : S.length < best.length
              · have hl1' : lessB S best = true := by rw [hls, if_neg (by simp; omega)]; exact decide_eq_true h1
                have hd1 : decide ((S.length : Int) < (best.length : Int)) = true := decide_eq_true (by omega)
                cases cv with
                | true =>
                  have HN := HKX.out (by rw [hl1']; rfl) rfl
                  go_wp2_with (fail)
                  refine HCV.out.mono ?_; rintro e' w6 ⟨rfl, hb6⟩
                  go_wp2
                  go_roundw
                  case rel => exact ⟨b + 1, true, S, by omega, by go_num, rfl, by omega, HBA.out.trans (hb6.mono (by omega)), OwnL.base (OwnL.below HSO.out hb6) (by omega), HN⟩
                  case measure => simp [intOf]; omega
                | false =>
                  have HN := HKN.out (Bool.and_false _)
                  go_wp2_with (fail)
                  refine HCV.out.mono ?_; rintro e' w6 ⟨rfl, hb6⟩
                  go_wp2
                  go_roundw
                  case rel => exact ⟨b + 1, _, best, by omega, by go_num, rfl, hlb, HBA.out.trans (hb6.mono (by omega)), OwnL.below HBO.out hb6, HN⟩
                  case measure => simp [intOf]; omega
              · have hd1 : decide ((S.length : Int) < (best.length : Int)) = false := decide_eq_false (by omega)
                by_cases h2 : S.length = best.length
                · have hd2 : ((S.length : Int) == (best.length : Int)) = true := by rw [h2]; simp
                  have HC2 := Lib.hid (HCM.out h2.symm)
                  have hl2 : lessB S best = lexB S best := by rw [hls, if_pos (by simpa using h2)]
                  rw [← hcl] at hl2
                  generalize cmpF S best = y at HC2 hl2
                  have hd3 : best.length ≤ S.length := by omega
                  clear h1 h2 hls hcl HCM
                  cases hy : decide (y < 0)
                  · rw [hy] at hl2
                    have HN := HKN.out (by rw [hl2]; rfl)
                    go_wp2_with (fail)
                    refine HC2.out.mono ?_; rintro e' w5 ⟨rfl, rfl⟩
                    go_wp2
                    go_roundw
                    case rel => exact ⟨b + 1, _, best, by omega, by go_num, rfl, hlb, HBA.out, HBO.out, HN⟩
                    case measure => simp [intOf]; omega
                  · rw [hy] at hl2
                    cases cv with
                    | true =>
                      have HN := HKX.out (by rw [hl2]; rfl) rfl
                      go_wp2_with (fail)
                      refine HC2.out.mono ?_; rintro e' w5 ⟨rfl, rfl⟩
                      go_wp2_with (fail)
                      refine HCV.out.mono ?_; rintro e' w6 ⟨rfl, hb6⟩
                      go_wp2
                      go_roundw
                      case rel => exact ⟨b + 1, true, S, by omega, by go_num, rfl, by omega, HBA.out.trans (hb6.mono (by omega)), OwnL.base (OwnL.below HSO.out hb6) (by omega), HN⟩
                      case measure => simp [intOf]; omega
                    | false =>
                      have HN := HKN.out (Bool.and_false _)
                      go_wp2_with (fail)
                      refine HC2.out.mono ?_; rintro e' w5 ⟨rfl, rfl⟩
                      go_wp2_with (fail)
                      refine HCV.out.mono ?_; rintro e' w6 ⟨rfl, hb6⟩
                      go_wp2
                      go_roundw
                      case rel => exact ⟨b + 1, _, best, by omega, by go_num, rfl, hlb, HBA.out.trans (hb6.mono (by omega)), OwnL.below HBO.out hb6, HN⟩
                      case measure => simp [intOf]; omega
                · have hd2 : ((S.length : Int) == (best.length : Int)) = false := by rw [beq_eq_false_iff_ne]; omega
                  have hl2 : lessB S best = false := by rw [hls, if_neg (by simpa using h2)]; exact decide_eq_false h1
                  have HN := HKN.out (by rw [hl2]; rfl)
                  go_wp2
                  go_roundw
                  case rel => exact ⟨b + 1, _, best, by omega, by go_num, rfl, hlb, HBA.out, HBO.out, HN⟩
                  case measure => simp [intOf]; omega
      · go_wp2
        have he := im_end (by omega) HK
        exact bodyPost_ret (by simp [results, Try.results52, go_sem] <;> rfl) rfl ⟨_, by rw [HF.out], by rw [HF.out, he]; exact ⟨how, fun b hb => (how.lt b hb).2⟩, hbw⟩
end Go.Proofs.Ytignjjkldmninaa
