/- Merging sectors: most data, first sector: the walks. -/
import Derived.Test.YtignjjkldmninaaMgP
import Derived.Test.YtignjjkldmninaaHDisc
namespace Go.Proofs.Ytignjjkldmninaa
set_option linter.unusedVariables false
open Go.RowKit
def MostSt (D : List ByteArray) (k : Nat) (b : ByteArray) (x : Nat) : Prop := (k = 0 ∧ x = 0) ∨ (b = mostK D k ∧ x = cntF b D)
theorem most_yes {D : List ByteArray} {k x : Nat} {b s : ByteArray} (h : MostSt D k b x) (hs : D[k]? = some s) (hx : x < cntF s D) : MostSt D (k + 1) s (cntF s D) := by
  refine .inr ⟨?_, rfl⟩
  rcases h with ⟨rfl, rfl⟩ | ⟨rfl, rfl⟩
  · rw [mostK_one, mostK, List.getD_eq_getElem?_getD, hs]; rfl
  · exact (mostK_yes hs hx).symm
theorem most_no {D : List ByteArray} {k x : Nat} {b s : ByteArray} (h : MostSt D k b x) (hs : D[k]? = some s) (hx : ¬ x < cntF s D) : MostSt D (k + 1) b x := by
  rcases h with ⟨rfl, rfl⟩ | ⟨rfl, rfl⟩
  · have := cnt_pos (List.mem_of_getElem? hs); omega
  · exact .inr ⟨(mostK_no hs hx).symm, rfl⟩
theorem most_end {D : List ByteArray} {x : Nat} {b : ByteArray} (h : MostSt D D.length b x) (h0 : D ≠ []) : b = mostS D := by
  rcases h with ⟨h, _⟩ | ⟨h, _⟩
  · exact absurd (List.eq_nil_of_length_eq_zero h) h0
  · exact h
def secDs (l : List Sec) : List ByteArray := l.map Sec.data
theorem secDs_len (l : List Sec) : (secDs l).length = l.length := by simp [secDs]
theorem secDs_get {l : List Sec} {k : Nat} {e : Sec} (h : l[k]? = some e) : (secDs l)[k]? = some e.data := by rw [secDs, List.getElem?_map, h]; rfl
set_option maxRecDepth 20000 in
set_option maxHeartbeats 4000000 in
theorem most_i (B : Nat) (l : List Sec) (v : Value) (w : World) (h : SecOwn B w v l) (hn : l.length ≤ 1048576) (h0 : l ≠ []) :
    Calls Try.prog 113 #[v] w fun e w' => e = .returned (.string (mostS (secDs l))) ∧ Below w.heap.size w w' := by
  obtain ⟨A, c, rfl, hA⟩ := OwnL.shape h
  obtain ⟨g, rfl, _, hg⟩ := hA.resolve_left h0
  have HC0 := Lib.hid (fun (k : Nat) (e : Sec) (hk : l[k]? = some e) => OwnL.cell Sec.len h hk (j := 0) rfl)
  have HC1 := Lib.hid (fun (k : Nat) (e : Sec) (hk : l[k]? = some e) => OwnL.cell Sec.len h hk (j := 1) rfl)
  have HE := Lib.hid (fun b x (hh : MostSt (secDs l) (secDs l).length b x) => most_end hh (by intro e; have := congrArg List.length e; rw [secDs_len] at this; exact h0 (List.eq_nil_of_length_eq_zero this)))
  rw [secDs_len] at HE
  have hcl := fun t => cnt_le t (secDs l)
  rw [secDs_len] at hcl
  clear hA h h0
  go_enter Try.func113, Try.ntmps113
  go_wp2
  go_loopw [12, 3, 4] (fun i b m wr => ∃ (k x : Nat) (s : ByteArray), k ≤ l.length ∧ i = .int .i64 k ∧ b = .string s ∧ m = .int .i64 x ∧ x ≤ l.length ∧ Below w.heap.size w wr ∧ Hid (MostSt (secDs l) k s x)) (fun i _ _ _ => l.length - (intOf i).toNat)
  case atStart => exact ⟨0, 0, .empty, by omega, rfl, rfl, rfl, by omega, Below.refl _ _, Lib.hid (.inl ⟨rfl, rfl⟩)⟩
  case round =>
    obtain ⟨k, x, s, hk, rfl, rfl, rfl, hx, hb, HM⟩ := hrel
    have zr := hb.size
    by_cases hlt : k < l.length
    · obtain ⟨e, he⟩ : ∃ e, l[k]? = some e := ⟨l[k], List.getElem?_eq_getElem hlt⟩
      have p0 := (hb.cell (p := ⟨g, _, none⟩) hg).trans (HC0.out k e he)
      have p1 := (hb.cell (p := ⟨g, _, none⟩) hg).trans (HC1.out k e he)
      simp only [Nat.add_zero] at p0
      have HY := Lib.hid (fun (hx : x < cntF e.data (secDs l)) => most_yes HM.out (secDs_get he) hx)
      have HN := Lib.hid (fun (hx : ¬ x < cntF e.data (secDs l)) => most_no HM.out (secDs_get he) hx)
      have hcle := hcl e.data
      generalize hwo : wr = wo at *; clear hwo
      have hB0 : Below wo.heap.size wo (wo.alloc (.cells #[.string e.data, .int .i64 e.state] 48)) := Below.alloc (Below.refl _ _) (Nat.le_refl _) _
      have hz0 : wo.heap.size < (wo.alloc (.cells #[.string e.data, .int .i64 e.state] 48)).heap.size := by simp
      have hq0 : (wo.alloc (.cells #[.string e.data, .int .i64 e.state] 48)).cell? ⟨wo.heap.size, 0, none⟩ = some (.string e.data) := by simp [go_sem]
      clear he HM hcl
      go_wp2
      go_loopw [18, 7] (fun i m wx => ∃ j y : Nat, j ≤ l.length ∧ i = .int .i64 j ∧ m = .int .i64 y ∧ y ≤ j ∧ Below wo.heap.size wo wx ∧ wo.heap.size < wx.heap.size ∧ wx.cell? ⟨wo.heap.size, 0, none⟩ = some (.string e.data) ∧ Hid (cntF e.data (secDs l) = y + cntF e.data ((secDs l).drop j))) (fun i _ _ => l.length - (intOf i).toNat)
      case atStart => exact ⟨0, 0, by omega, rfl, rfl, by omega, hB0, hz0, hq0, Lib.hid (by simp)⟩
      case round =>
        clear hB0 hz0 hq0
        obtain ⟨j, y, hj, rfl, rfl, hy, hbx, hzx, hq, HK⟩ := hrel
        by_cases hltj : j < l.length
        · obtain ⟨f, hf⟩ : ∃ f, l[j]? = some f := ⟨l[j], List.getElem?_eq_getElem hltj⟩
          have r0 := (hbx.cell (p := ⟨g, j * 2, none⟩) (Nat.lt_of_lt_of_le hg zr)).trans ((hb.cell (p := ⟨g, j * 2, none⟩) hg).trans (HC0.out j f hf))
          have r1 := (hbx.cell (p := ⟨g, j * 2 + 1, none⟩) (Nat.lt_of_lt_of_le hg zr)).trans ((hb.cell (p := ⟨g, j * 2 + 1, none⟩) hg).trans (HC1.out j f hf))
          have HD := Lib.hid (cnt_drop (t := e.data) (secDs_get hf))
          have hb1 : Below wo.heap.size wo (wr.alloc (.cells #[.string f.data, .int .i64 f.state] 48)) := Below.alloc hbx hbx.size _
          have hq1 := (World.cell?_alloc_old wr (.cells #[.string f.data, .int .i64 f.state] 48) ⟨wo.heap.size, 0, none⟩ (Nat.ne_of_lt hzx)).trans hq
          clear hf
          cases hc : (f.data.toList == e.data.toList)
          · have HN : Hid (cntF e.data (secDs l) = y + cntF e.data ((secDs l).drop (j + 1))) := Lib.hid (by rw [HK.out, HD.out, hc]; simp)
            go_wp2
            go_roundw
            case rel => exact ⟨j + 1, y, by omega, by go_num, rfl, by omega, hb1, by simp; omega, hq1, HN⟩
            case measure => simp [intOf]; omega
          · have HN : Hid (cntF e.data (secDs l) = (y + 1) + cntF e.data ((secDs l).drop (j + 1))) := Lib.hid (by rw [HK.out, HD.out, hc]; simp; omega)
            go_wp2
            go_roundw
            case rel => exact ⟨j + 1, y + 1, by omega, by go_num, by go_num, by omega, hb1, by simp; omega, hq1, HN⟩
            case measure => simp [intOf]; omega
        · have HX : Hid (cntF e.data (secDs l) = y) := Lib.hid (by rw [HK.out, List.drop_of_length_le (by rw [secDs_len]; omega)]; simp [cntF])
          rw [HX.out] at HY HN hcle
          by_cases hxy : x < y
          · have HM2 := Lib.hid (HY.out hxy)
            have d1 : decide ((x : Int) < (y : Int)) = true := decide_eq_true (by omega)
            clear HY HN
            go_wp2
            go_roundw
            case rel => exact ⟨k + 1, y, e.data, by omega, by go_num, rfl, rfl, hcle, hb.trans (hbx.mono zr), HM2⟩
            case measure => simp [intOf]; omega
          · have HM2 := Lib.hid (HN.out hxy)
            have d1 : decide ((x : Int) < (y : Int)) = false := decide_eq_false (by omega)
            clear HY HN
            go_wp2
            go_roundw
            case rel => exact ⟨k + 1, x, s, by omega, by go_num, rfl, rfl, hx, hb.trans (hbx.mono zr), HM2⟩
            case measure => simp [intOf]; omega
    · obtain rfl : k = l.length := by omega
      have HX := Lib.hid (HE.out _ _ HM.out)
      go_wp2
      go_ret
      exact ⟨by rw [HX.out]; rfl, hb⟩
set_option maxRecDepth 20000 in
set_option maxHeartbeats 4000000 in
theorem most_s (B : Nat) (D : List ByteArray) (v : Value) (w : World) (h : StringL B w v D) (hn : D.length ≤ 1048576) (h0 : D ≠ []) :
    Calls Try.prog 110 #[v] w fun e w' => e = .returned (.string (mostS D)) ∧ w = w' := by
  have HN := Lib.hid (fun t => count_s B D v t w h hn)
  obtain ⟨A, c, rfl, hA⟩ := OwnL.shape h
  obtain ⟨g, rfl, _, hg⟩ := hA.resolve_left h0
  have HC := Lib.hid (fun k s (hk : D[k]? = some s) => StringL.at_ h rfl hk)
  have hl : 0 < D.length := List.length_pos_iff.2 h0
  obtain ⟨s0, hs0⟩ : ∃ s, D[0]? = some s := ⟨D[0], List.getElem?_eq_getElem hl⟩
  have p0 := HC.out 0 s0 hs0
  have H0 : Hid (s0 = mostK D 1) := Lib.hid (by rw [mostK_one, mostK, List.getD_eq_getElem?_getD, hs0]; rfl)
  have hcl := fun t => cnt_le t D
  clear hA h h0 hs0
  go_enter Try.func110, Try.ntmps110
  go_wp2
  go_loop [4, 3] (fun i b => ∃ (k : Nat) (s : ByteArray), 1 ≤ k ∧ k ≤ D.length ∧ i = .int .i64 k ∧ b = .string s ∧ Hid (s = mostK D k)) (fun i _ => D.length - (intOf i).toNat)
  case atStart => exact ⟨1, s0, by omega, by omega, rfl, rfl, H0⟩
  case round =>
    clear H0 p0
    obtain ⟨k, s, hk1, hk, rfl, rfl, HM⟩ := hrel
    by_cases hlt : k < D.length
    · obtain ⟨t, ht⟩ : ∃ t, D[k]? = some t := ⟨D[k], List.getElem?_eq_getElem hlt⟩
      have q0 := HC.out k t ht
      have HA := Lib.hid (HN.out t)
      have HB := Lib.hid (HN.out s)
      have h1 := hcl t
      have h2 := hcl s
      by_cases hx : cntF s D < cntF t D
      · have HM2 : Hid (t = mostK D (k + 1)) := Lib.hid (mostK_yes ht (by rw [← HM.out]; exact hx)).symm
        generalize cntF s D = x at *
        generalize cntF t D = y at *
        have d1 : decide ((x : Int) < (y : Int)) = true := decide_eq_true (by omega)
        clear ht
        go_wp2_with (fail)
        refine HA.out.mono ?_; rintro e w1 ⟨rfl, rfl⟩
        go_wp2_with (fail)
        refine HB.out.mono ?_; rintro e w1 ⟨rfl, rfl⟩
        go_wp2
        go_round
        case rel => exact ⟨k + 1, t, by omega, by omega, by go_num, rfl, HM2⟩
        case measure => simp [intOf]; omega
      · have HM2 : Hid (s = mostK D (k + 1)) := Lib.hid ((mostK_no ht (by rw [← HM.out]; exact hx)).trans HM.out.symm).symm
        generalize cntF s D = x at *
        generalize cntF t D = y at *
        have d1 : decide ((x : Int) < (y : Int)) = false := decide_eq_false (by omega)
        clear ht
        go_wp2_with (fail)
        refine HA.out.mono ?_; rintro e w1 ⟨rfl, rfl⟩
        go_wp2_with (fail)
        refine HB.out.mono ?_; rintro e w1 ⟨rfl, rfl⟩
        go_wp2
        go_round
        case rel => exact ⟨k + 1, s, by omega, by omega, by go_num, rfl, HM2⟩
        case measure => simp [intOf]; omega
    · obtain rfl : k = D.length := by omega
      go_wp2
      go_ret
      exact ⟨by rw [HM.out]; rfl, rfl⟩
/-- the first sector with a state and data, -1 if there is none -/
def firF (st : Int) (d : ByteArray) : Nat → List Sec → Int
  | _, [] => -1
  | k, s :: r => if (s.state == st && s.data.toList == d.toList) = true then (k : Int) else firF st d (k + 1) r
theorem fir_yes {st : Int} {d : ByteArray} {l : List Sec} {k : Nat} {e : Sec} (he : l[k]? = some e) (h : (e.state == st && e.data.toList == d.toList) = true) : firF st d k (l.drop k) = k := by
  obtain ⟨hk, rfl⟩ := List.getElem?_eq_some_iff.1 he
  rw [List.drop_eq_getElem_cons hk, firF, if_pos h]
theorem fir_no {st : Int} {d : ByteArray} {l : List Sec} {k : Nat} {e : Sec} (he : l[k]? = some e) (h : (e.state == st && e.data.toList == d.toList) = false) : firF st d k (l.drop k) = firF st d (k + 1) (l.drop (k + 1)) := by
  obtain ⟨hk, rfl⟩ := List.getElem?_eq_some_iff.1 he
  rw [List.drop_eq_getElem_cons hk, firF, if_neg (by rw [h]; decide)]
set_option maxRecDepth 20000 in
set_option maxHeartbeats 4000000 in
theorem first_s (B : Nat) (l : List Sec) (v : Value) (st : Int) (d : ByteArray) (w : World) (h : SecOwn B w v l) (hn : l.length ≤ 1048576) :
    Calls Try.prog 111 #[v, .int .i64 st, .string d] w fun e w' => e = .returned (.int .i64 (firF st d 0 l)) ∧ w = w' := by
  obtain ⟨A, c, rfl, hA⟩ := OwnL.shape h
  by_cases hl0 : l = []
  · subst hl0
    go_enter Try.func111, Try.ntmps111
    go_wp2
    refine wp_loop_once ?_
    go_wp2
    go_ret
    exact ⟨rfl, rfl⟩
  obtain ⟨g, rfl, _, hg⟩ := hA.resolve_left hl0
  have HC0 := Lib.hid (fun (k : Nat) (e : Sec) (hk : l[k]? = some e) => OwnL.cell Sec.len h hk (j := 0) rfl)
  have HC1 := Lib.hid (fun (k : Nat) (e : Sec) (hk : l[k]? = some e) => OwnL.cell Sec.len h hk (j := 1) rfl)
  clear hA h hl0
  go_enter Try.func111, Try.ntmps111
  go_wp2
  go_loop [7] (fun i => ∃ k : Nat, k ≤ l.length ∧ i = .int .i64 k ∧ Hid (firF st d 0 l = firF st d k (l.drop k))) (fun i => l.length - (intOf i).toNat)
  case atStart => exact ⟨0, by omega, rfl, Lib.hid rfl⟩
  case round =>
    obtain ⟨k, hk, rfl, HK⟩ := hrel
    by_cases hlt : k < l.length
    · obtain ⟨e, he⟩ : ∃ e, l[k]? = some e := ⟨l[k], List.getElem?_eq_getElem hlt⟩
      have p0 := HC0.out k e he
      have p1 := HC1.out k e he
      simp only [Nat.add_zero] at p0
      cases h1 : (e.state == st)
      · have HN : Hid (firF st d 0 l = firF st d (k + 1) (l.drop (k + 1))) := Lib.hid (HK.out.trans (fir_no he (by rw [h1]; rfl)))
        clear he
        go_wp2
        go_round
        case rel => exact ⟨k + 1, by omega, by go_num, HN⟩
        case measure => simp [intOf]; omega
      · cases h2 : (e.data.toList == d.toList)
        · have HN : Hid (firF st d 0 l = firF st d (k + 1) (l.drop (k + 1))) := Lib.hid (HK.out.trans (fir_no he (by rw [h1, h2]; rfl)))
          clear he
          go_wp2
          go_round
          case rel => exact ⟨k + 1, by omega, by go_num, HN⟩
          case measure => simp [intOf]; omega
        · have HN : Hid (firF st d 0 l = (k : Int)) := Lib.hid (HK.out.trans (fir_yes he (by rw [h1, h2]; rfl)))
          clear he
          go_wp2
          go_ret
          exact ⟨ret_int HN.out.symm, rfl⟩
    · have HX : Hid (firF st d 0 l = -1) := Lib.hid (by rw [HK.out, List.drop_of_length_le (by omega)]; rfl)
      go_wp2
      go_ret
      exact ⟨ret_int HX.out.symm, rfl⟩
end Go.Proofs.Ytignjjkldmninaa
