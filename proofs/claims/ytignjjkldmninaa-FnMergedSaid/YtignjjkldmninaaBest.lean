/- BestDump, impl and spec: the walks. -/
import Derived.Test.YtignjjkldmninaaGood
import Derived.Test.YtignjjkldmninaaVDumpsS
namespace Go.Proofs.Ytignjjkldmninaa
set_option linter.unusedVariables false
open Go.RowKit
def gd (d : Dsc) : Nat := (stF 1 d.secs).length
def bestF : Nat → Int → Nat → List Dsc → Nat
  | b, _, _, [] => b
  | b, m, k, d :: r => if decide (m < (gd d : Int)) = true then bestF k (gd d) (k + 1) r else bestF b m (k + 1) r
def bestE (l : List Dsc) : Int × Int := if dumpsOk l = true then ((bestF 0 (-1) 0 l : Nat), 0) else (0, 1)
theorem best_yes {l : List Dsc} {b k X : Nat} {m : Int} {e : Dsc} (he : l[k]? = some e) (H : Hid (X = bestF b m k (l.drop k))) (hc : decide (m < (gd e : Int)) = true) : Hid (X = bestF k (gd e) (k + 1) (l.drop (k + 1))) := by
  obtain ⟨hk, rfl⟩ := List.getElem?_eq_some_iff.1 he
  exact Lib.hid (by rw [H.out, List.drop_eq_getElem_cons hk, bestF, if_pos hc])
theorem best_no {l : List Dsc} {b k X : Nat} {m : Int} {e : Dsc} (he : l[k]? = some e) (H : Hid (X = bestF b m k (l.drop k))) (hc : decide (m < (gd e : Int)) = false) : Hid (X = bestF b m (k + 1) (l.drop (k + 1))) := by
  obtain ⟨hk, rfl⟩ := List.getElem?_eq_some_iff.1 he
  exact Lib.hid (by rw [H.out, List.drop_eq_getElem_cons hk, bestF, if_neg (by rw [hc]; decide)])
theorem best_end {l : List Dsc} {b k X : Nat} {m : Int} (hk : l.length ≤ k) (H : Hid (X = bestF b m k (l.drop k))) : X = b := by
  rw [H.out, List.drop_of_length_le hk, bestF]
theorem du_first {l : List Dsc} (h : dumpsOk l = true) : ∃ z, l[0]? = some z := by
  cases l with
  | nil => cases h
  | cons z r => exact ⟨z, rfl⟩
theorem du_len {l : List Dsc} (h : dumpsOk l = true) : l.length ≤ 5 := by
  cases l with
  | nil => simp
  | cons z r =>
    unfold dumpsOk at h
    rw [Bool.and_eq_true] at h
    exact of_decide_eq_true h.1
set_option maxHeartbeats 2000000 in
theorem goodp_s (B g o : Nat) (bv : Value) (d : Dsc) (w : World) (hn : d.secs.length ≤ 1048576) (h : SecOwn B w bv d.secs) (p4 : w.cell? ⟨g, o + 4, none⟩ = some bv) :
    Calls Try.prog 74 #[.pointer (some ⟨g, o, none⟩)] w fun e w' => e = .returned (.int .i64 (gd d)) ∧ Below w.heap.size w w' := by
  have HS := Lib.hid (state_s B bv d.secs 1 w hn h)
  obtain ⟨A, c, rfl, _⟩ := OwnL.shape h
  clear h
  go_enter Try.func74, Try.ntmps74
  go_wp2_with (fail)
  refine HS.out.mono ?_; rintro e w1 ⟨v1, rfl, o1, hb1⟩
  obtain ⟨A1, c1, rfl, _⟩ := OwnL.shape o1
  go_wp2
  go_ret
  exact ⟨rfl, hb1⟩
set_option maxRecDepth 20000 in
set_option maxHeartbeats 4000000 in
theorem best_i (B : Nat) (l : List Dsc) (v : Value) (w : World) (h : DscOwn B w v l) (hn : l.length ≤ 1048576) (hb2 : ∀ d ∈ l, d.secs.length ≤ 1048576) (hm : ∀ d ∈ l, ∀ s ∈ d.secs, s.data.size ≤ maxLen) :
    Calls Try.prog 27 #[v] w fun e w' => e = .returned (.tuple #[.int .i64 (bestE l).1, .int .i64 (bestE l).2]) ∧ Below w.heap.size w w' := by
  have HV := Lib.hid (dumps_i B l v w h hn hb2 hm)
  cases hok : dumpsOk l
  · have HF : Hid (bestE l = (0, 1)) := Lib.hid (by unfold bestE; rw [hok]; rfl)
    obtain ⟨A, c, rfl, _⟩ := h
    rw [hok] at HV
    go_enter Try.func27, Try.ntmps27
    go_wp2_with (fail)
    refine HV.out.mono ?_; rintro e w1 ⟨rfl, hb1⟩
    go_wp2
    exact bodyPost_ret (v := .tuple #[.int .i64 0, .int .i64 1]) (by simp [results, Try.results27, go_sem]) rfl ⟨by rw [HF.out], hb1⟩
  · have HF : Hid (bestE l = (((bestF 0 (-1) 0 l : Nat) : Int), 0)) := Lib.hid (by unfold bestE; rw [hok]; rfl)
    obtain ⟨z, hz⟩ := du_first hok
    obtain ⟨A, c, rfl, hA⟩ := h
    obtain ⟨g, rfl, _, hg, hc⟩ := hA.resolve_left (by rintro rfl; cases hz)
    have HC := Lib.hid hc
    rw [hok] at HV
    clear hA hc hz
    go_enter Try.func27, Try.ntmps27
    go_wp2_with (fail)
    refine HV.out.mono ?_; rintro e w1 ⟨rfl, hb1⟩
    have z1 := hb1.size
    go_wp2
    go_loopw [14, 4, 5] (fun i bb mm wr => ∃ (k b : Nat) (m : Int), k ≤ l.length ∧ i = .int .i64 k ∧ bb = .int .i64 b ∧ mm = .int .i64 m ∧ Below w.heap.size w wr ∧ Hid (bestF 0 (-1) 0 l = bestF b m k (l.drop k))) (fun i _ _ _ => l.length - (intOf i).toNat)
    case atStart => exact ⟨0, 0, -1, by omega, rfl, rfl, rfl, hb1, Lib.hid rfl⟩
    case round =>
      obtain ⟨k, b, m, hk, rfl, rfl, rfl, hb, HK⟩ := hrel
      have zr := hb.size
      by_cases hlt : k < l.length
      · obtain ⟨e, he⟩ : ∃ e, l[k]? = some e := ⟨l[k], List.getElem?_eq_getElem hlt⟩
        obtain ⟨bv, o1, c1⟩ := HC.out k e he
        have PC := fun (j : Nat) (u : Value) (hu : (e.ints ++ [bv])[j]? = some u) => (hb.cell (p := ⟨g, k * 5 + j, none⟩) hg).trans (c1 j u hu)
        have p0 : wr.cell? ⟨g, k * 5, none⟩ = some (.int .i64 e.cyl) := PC 0 _ rfl
        have p1 := PC 1 _ rfl
        have p2 := PC 2 _ rfl
        have p3 := PC 3 _ rfl
        have p4 := PC 4 _ rfl
        have hmem := List.mem_of_getElem? he
        have HG := Lib.hid (fun (w2 : World) (h2 : Below w.heap.size w w2) => good_i B bv e.secs w2 (hb2 e hmem) (OwnL.below o1 h2))
        obtain ⟨A2, c2, rfl, _⟩ := OwnL.shape o1
        have HE := Lib.hid he
        clear o1 c1 PC he
        have hB := Below.alloc hb zr (.cells #[.int .i64 e.cyl, .int .i64 e.heads, .int .i64 e.per, .int .i64 e.size, .slice A2 e.secs.length c2] 39)
        have hgd : (stF 1 e.secs).length = gd e := rfl
        cases hc : decide (m < (gd e : Int))
        · have HN := best_no HE.out HK hc
          go_wp2_with (fail)
          refine (HG.out _ hB).mono ?_; rintro e' w2 ⟨v2, rfl, o2, hb3⟩
          obtain ⟨A3, c3, rfl, _⟩ := OwnL.shape o2
          go_wp2
          go_roundw
          case rel => exact ⟨k + 1, b, m, by omega, by go_num, rfl, rfl, hB.trans (hb3.mono (by simp; omega)), HN⟩
          case measure => simp [intOf]; omega
        · have HN := best_yes HE.out HK hc
          go_wp2_with (fail)
          refine (HG.out _ hB).mono ?_; rintro e' w2 ⟨v2, rfl, o2, hb3⟩
          obtain ⟨A3, c3, rfl, _⟩ := OwnL.shape o2
          go_wp2
          go_roundw
          case rel => exact ⟨k + 1, k, _, by omega, by go_num, rfl, rfl, hB.trans (hb3.mono (by simp; omega)), HN⟩
          case measure => simp [intOf]; omega
      · go_wp2
        exact bodyPost_ret (v := .tuple #[.int .i64 b, .int .i64 0]) (by simp [results, Try.results27, go_sem]) rfl ⟨by rw [HF.out, best_end (by omega) HK], hb⟩
set_option maxRecDepth 20000 in
set_option maxHeartbeats 4000000 in
theorem best_s (B : Nat) (l : List Dsc) (v : Value) (w : World) (h : DscOwn B w v l) (hn : l.length ≤ 1048576) (hb2 : ∀ d ∈ l, d.secs.length ≤ 1048576) (hm : ∀ d ∈ l, ∀ s ∈ d.secs, s.data.size ≤ maxLen) :
    Calls Try.prog 26 #[v] w fun e w' => e = .returned (.tuple #[.int .i64 (bestE l).1, .int .i64 (bestE l).2]) ∧ Below w.heap.size w w' := by
  have HV := Lib.hid (dumpsL_s B l v w h hn hb2 hm)
  cases hok : dumpsOk l
  · have HF : Hid (bestE l = (0, 1)) := Lib.hid (by unfold bestE; rw [hok]; rfl)
    obtain ⟨A, c, rfl, _⟩ := h
    rw [hok] at HV
    go_enter Try.func26, Try.ntmps26
    go_wp2_with (fail)
    refine HV.out.mono ?_; rintro e w1 ⟨rfl, hb1⟩
    go_wp2
    exact bodyPost_ret (v := .tuple #[.int .i64 0, .int .i64 1]) (by simp [results, Try.results26, go_sem]) rfl ⟨by rw [HF.out], hb1⟩
  · have HF : Hid (bestE l = (((bestF 0 (-1) 0 l : Nat) : Int), 0)) := Lib.hid (by unfold bestE; rw [hok]; rfl)
    obtain ⟨z, hz⟩ := du_first hok
    have HZ := Lib.hid (best_yes (b := 0) (m := -1) hz (Lib.hid rfl) (by simp; omega))
    have hl1 : 1 ≤ l.length := (List.getElem?_eq_some_iff.1 hz).1
    obtain ⟨A, c, rfl, hA⟩ := h
    obtain ⟨g, rfl, _, hg, hc⟩ := hA.resolve_left (by rintro rfl; cases hz)
    have HC := Lib.hid hc
    have HZ0 := Lib.hid hz
    rw [hok] at HV
    clear hA hc hz
    go_enter Try.func26, Try.ntmps26
    go_wp2_with (fail)
    refine HV.out.mono ?_; rintro e w1 ⟨rfl, hb1⟩
    have z1 := hb1.size
    go_wp2
    go_loopw [5, 4] (fun i bb wr => ∃ (k b : Nat) (eb : Dsc), 1 ≤ k ∧ k ≤ l.length ∧ i = .int .i64 k ∧ bb = .int .i64 b ∧ Hid (l[b]? = some eb) ∧ b < l.length ∧ Below w.heap.size w wr ∧ Hid (bestF 0 (-1) 0 l = bestF b (gd eb) k (l.drop k))) (fun i _ _ => l.length - (intOf i).toNat)
    case atStart => exact ⟨1, 0, z, by omega, by omega, rfl, rfl, HZ0, by omega, hb1, HZ.out⟩
    case round =>
      obtain ⟨k, b, eb, hk1, hk, rfl, rfl, HB, hbl, hb, HK⟩ := hrel
      have zr := hb.size
      by_cases hlt : k < l.length
      · obtain ⟨e, he⟩ : ∃ e, l[k]? = some e := ⟨l[k], List.getElem?_eq_getElem hlt⟩
        obtain ⟨bv, o1, c1⟩ := HC.out k e he
        obtain ⟨bb, o2, c2⟩ := HC.out b eb HB.out
        have HG1 : Hid (∀ x : Wb wr, Calls Try.prog 74 #[.pointer (some ⟨g, k * 5, none⟩)] x.1 fun e' w' => e' = .returned (.int .i64 (gd e)) ∧ Below x.1.heap.size x.1 w') := Lib.hid (fun x => goodp_s B g (k * 5) bv e x.1 (hb2 e (List.mem_of_getElem? he)) (OwnL.below (OwnL.below o1 hb) x.2) (Wb.cell ((hb.cell (p := ⟨g, k * 5 + 4, none⟩) hg).trans (c1 4 _ rfl)) x))
        have HG2 : Hid (∀ x : Wb wr, Calls Try.prog 74 #[.pointer (some ⟨g, b * 5, none⟩)] x.1 fun e' w' => e' = .returned (.int .i64 (gd eb)) ∧ Below x.1.heap.size x.1 w') := Lib.hid (fun x => goodp_s B g (b * 5) bb eb x.1 (hb2 eb (List.mem_of_getElem? HB.out)) (OwnL.below (OwnL.below o2 hb) x.2) (Wb.cell ((hb.cell (p := ⟨g, b * 5 + 4, none⟩) hg).trans (c2 4 _ rfl)) x))
        have HE := Lib.hid he
        clear o1 c1 o2 c2 he
        cases hc : decide ((gd eb : Int) < (gd e : Int))
        · have hc' : decide (gd eb < gd e) = false := by simpa using hc
          have HN := best_no HE.out HK hc
          go_wp2_with (fail)
          refine wp_region_wb (by kernel_rfl) (by kernel_rfl) ?_
          repeat (go_big_quiet_step ((go_at_call 74; first | exact Wb.calls (HG1.out _) | exact Wb.calls (HG2.out _))))
          refine wpQuiet_nil ?_; intro w1 hw'; obtain ⟨⟨w2, hb1⟩, hw''⟩ := hw'; subst hw''
          go_wp2
          go_roundw
          case rel => exact ⟨k + 1, b, eb, by omega, by omega, by go_num, rfl, HB, hbl, hb.trans (hb1.mono zr), HN⟩
          case measure => simp [intOf]; omega
        · have hc' : decide (gd eb < gd e) = true := by simpa using hc
          have HN := best_yes HE.out HK hc
          go_wp2_with (fail)
          refine wp_region_wb (by kernel_rfl) (by kernel_rfl) ?_
          repeat (go_big_quiet_step ((go_at_call 74; first | exact Wb.calls (HG1.out _) | exact Wb.calls (HG2.out _))))
          refine wpQuiet_nil ?_; intro w1 hw'; obtain ⟨⟨w2, hb1⟩, hw''⟩ := hw'; subst hw''
          go_wp2
          go_roundw
          case rel => exact ⟨k + 1, k, e, by omega, by omega, by go_num, rfl, HE, hlt, hb.trans (hb1.mono zr), HN⟩
          case measure => simp [intOf]; omega
      · go_wp2
        exact bodyPost_ret (v := .tuple #[.int .i64 b, .int .i64 0]) (by simp [results, Try.results26, go_sem]) rfl ⟨by rw [HF.out, best_end (by omega) HK], hb⟩
end Go.Proofs.Ytignjjkldmninaa
