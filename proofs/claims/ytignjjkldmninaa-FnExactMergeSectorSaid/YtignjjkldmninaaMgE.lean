/- MergeSector: the contracts. -/
import Derived.Test.YtignjjkldmninaaMgI
namespace Go.Proofs.Ytignjjkldmninaa
set_option linter.unusedVariables false
open Go.RowKit
def okZ (n : Nat) : Bool := n == 8 || n == 16 || n == 32
def okS (n : Nat) (s : Sec) : Bool := inB s.state 1 4 && decide (s.data.size = n)
def mgOk (l : List Sec) : Bool := match l with
  | [] => false
  | e :: _ => decide (l.length ≤ 5) && (okZ e.data.size && l.all (okS e.data.size))
def mgE (l : List Sec) : Sec × Int × Int × Bool := if mgOk l then ((mgS l).1, (mgS l).2.1, (mgS l).2.2, true) else (⟨.empty, 0⟩, 0, 0, false)
def mgT (x : Sec × Int × Int × Bool) : Value := .tuple #[.agg #[.string x.1.data, .int .i64 x.1.state], .int .i64 x.2.1, .int .i64 x.2.2.1, .bool x.2.2.2]
theorem mgE_no {l : List Sec} (h : mgOk l = false) : mgT (mgE l) = .tuple #[.agg #[.string .empty, .int .i64 0], .int .i64 0, .int .i64 0, .bool false] := by unfold mgE; rw [h]; rfl
theorem mgE_yes {l : List Sec} (h : mgOk l = true) : mgT (mgE l) = .tuple #[.agg #[.string (mgS l).1.data, .int .i64 (mgS l).1.state], .int .i64 (mgS l).2.1, .int .i64 (mgS l).2.2, .bool true] := by unfold mgE; rw [h]; rfl
theorem mgOk_first {l : List Sec} {e : Sec} (he : l[0]? = some e) (h5 : l.length ≤ 5) : mgOk l = (okZ e.data.size && l.all (okS e.data.size)) := by
  cases l with
  | nil => simp at he
  | cons a l => simp at he; subst he; show (decide ((a :: l).length ≤ 5) && _) = _; rw [decide_eq_true h5, Bool.true_and]
theorem mgOk_len {l : List Sec} (h : ¬ (1 ≤ l.length ∧ l.length ≤ 5)) : mgOk l = false := by
  cases l with
  | nil => rfl
  | cons a l => show (decide ((a :: l).length ≤ 5) && _) = false; rw [decide_eq_false (by simp at h ⊢; omega), Bool.false_and]
theorem mgOk_z {l : List Sec} {e : Sec} (he : l[0]? = some e) (h5 : l.length ≤ 5) (h : okZ e.data.size = false) : mgOk l = false := by rw [mgOk_first he h5, h]; rfl
theorem all_no {l : List Sec} {n k : Nat} {e : Sec} (he : l[k]? = some e) (h : okS n e = false) : l.all (okS n) = false := by
  rw [Bool.eq_false_iff]; intro hc
  have := List.all_eq_true.1 hc e (List.mem_of_getElem? he)
  rw [h] at this; cases this
theorem mgOk_at {l : List Sec} {e s : Sec} {k : Nat} (he : l[0]? = some e) (h5 : l.length ≤ 5) (hs : l[k]? = some s) (h : okS e.data.size s = false) : mgOk l = false := by rw [mgOk_first he h5, all_no hs h, Bool.and_false]
theorem all_take {l : List Sec} {n k : Nat} {e : Sec} (h : (l.take k).all (okS n) = true) (he : l[k]? = some e) (h2 : okS n e = true) : (l.take (k + 1)).all (okS n) = true := by
  obtain ⟨hk, rfl⟩ := List.getElem?_eq_some_iff.1 he
  rw [List.take_succ_eq_append_getElem hk, List.all_append, h, List.all_cons, h2]; rfl
theorem mgOk_sizes {l : List Sec} {e : Sec} (he : l[0]? = some e) (h : mgOk l = true) : ∀ s ∈ l, s.data.size = e.data.size := by
  cases l with
  | nil => simp at he
  | cons a l =>
    simp at he; subst he
    unfold mgOk at h
    simp only [Bool.and_eq_true] at h
    intro s hs
    have := List.all_eq_true.1 h.2.2 s hs
    unfold okS at this
    simp only [Bool.and_eq_true, decide_eq_true_eq] at this
    exact this.2
theorem okZ_le {n : Nat} (h : okZ n = true) : n = 8 ∨ n = 16 ∨ n = 32 := by
  unfold okZ at h; simp at h; omega
set_option maxRecDepth 20000 in
set_option maxHeartbeats 4000000 in
theorem mge_i (B : Nat) (l : List Sec) (v : Value) (w : World) (h : SecOwn B w v l) (hn : l.length ≤ 1048576) (hm : ∀ s ∈ l, s.data.size ≤ maxLen) :
    Calls Try.prog 31 #[v] w fun e w' => e = .returned (mgT (mgE l)) ∧ Below w.heap.size w w' := by
  unfold maxLen at hm
  have HW := Lib.hid (fun W => within_i (l.length : Int) 1 5 W)
  have HM := Lib.hid (fun W (hb : Below w.heap.size w W) (h0 : l ≠ []) n (hs : ∀ s ∈ l, s.data.size = n) (hn2 : n ≤ 1048576) => lsec_i B l v W (OwnL.below h hb) hn h0 n hs hn2)
  obtain ⟨A, c, rfl, hA⟩ := OwnL.shape h
  have hB0 : Below w.heap.size w (w.alloc (.cells #[.string .empty, .int .i64 0] 48)) := Below.alloc (Below.refl _ _) (Nat.le_refl _) _
  have r0 : (w.alloc (.cells #[.string .empty, .int .i64 0] 48)).cell? ⟨w.heap.size, 0, none⟩ = some (.string .empty) := by simp [go_sem]
  have r1 : (w.alloc (.cells #[.string .empty, .int .i64 0] 48)).cell? ⟨w.heap.size, 1, none⟩ = some (.int .i64 0) := by simp [go_sem]
  cases hin : inB (l.length : Int) 1 5
  · have hlen : ¬ (1 ≤ l.length ∧ l.length ≤ 5) := fun hc => by rw [inB_t (by omega)] at hin; cases hin
    have HF := Lib.hid (mgE_no (mgOk_len hlen))
    rw [hin] at HW
    clear hlen hin HM hA
    go_enter Try.func31, Try.ntmps31
    go_wp2_with (first | (go_at_call 80; refine (size_sec _ _ _ _ hn).mono ?_; rintro e w1 ⟨rfl, rfl⟩) | (go_at_call 65; refine (HW.out _).mono ?_; rintro e w1 ⟨rfl, rfl⟩))
    rw [HF.out]
    exact bodyPost_ret (v := .tuple #[.agg #[.string .empty, .int .i64 0], .int .i64 0, .int .i64 0, .bool false]) (by simp [results, Try.results31, go_sem]; try rfl) rfl ⟨rfl, hB0⟩
  rw [hin] at HW
  have hlen := inB_yes hin
  have h5 : l.length ≤ 5 := by omega
  have hne : l ≠ [] := by rintro rfl; simp at hlen
  obtain ⟨g, rfl, _, hg⟩ := hA.resolve_left hne
  have P0 : Hid (∀ k e, l[k]? = some e → w.cell? ⟨g, k * 2, none⟩ = some (.string e.data)) := Lib.hid fun k e hk => by have := OwnL.cell Sec.len h hk (j := 0) rfl; simpa using this
  have P1 : Hid (∀ k e, l[k]? = some e → w.cell? ⟨g, k * 2 + 1, none⟩ = some (.int .i64 e.state)) := Lib.hid fun k e hk => OwnL.cell Sec.len h hk (j := 1) rfl
  have hl0 : 0 < l.length := List.length_pos_iff.2 hne
  have hl1 : (0 : Int) < (l.length : Int) := by omega
  obtain ⟨e0, he0⟩ : ∃ e, l[0]? = some e := ⟨l[0], List.getElem?_eq_getElem hl0⟩
  have p000 : w.cell? ⟨g, 0, none⟩ = some (.string e0.data) := by have := P0.out 0 e0 he0; simpa using this
  have p00 := (hB0.cell (p := ⟨g, 0, none⟩) hg).trans p000
  have HZN := Lib.hid (fun (hz : okZ e0.data.size = false) => mgE_no (mgOk_z he0 h5 hz))
  have HAT := Lib.hid (fun k s (hs : l[k]? = some s) (h : okS e0.data.size s = false) => mgE_no (mgOk_at he0 h5 hs h))
  have HOK := Lib.hid (fun (hz : okZ e0.data.size = true) (ha : l.all (okS e0.data.size) = true) => show mgOk l = true from by rw [mgOk_first he0 h5, hz, ha]; rfl)
  have HSZ := Lib.hid (fun (h : mgOk l = true) => mgOk_sizes he0 h)
  have HMX := Lib.hid (fun k s (hs : l[k]? = some s) => hm s (List.mem_of_getElem? hs))
  have hm0 := hm e0 (List.mem_of_getElem? he0)
  clear hin hA h he0 hm
  go_enter Try.func31, Try.ntmps31
  go_wp2_with (first | (go_at_call 80; refine (size_sec _ _ _ _ hn).mono ?_; rintro e w1 ⟨rfl, rfl⟩) | (go_at_call 65; refine (HW.out _).mono ?_; rintro e w1 ⟨rfl, rfl⟩))
  go_loopw [24] (fun i wr => ∃ k : Nat, k ≤ l.length ∧ i = .int .i64 k ∧ Below (w.heap.size + 1) (w.alloc (.cells #[.string .empty, .int .i64 0] 48)) wr ∧ Hid ((l.take k).all (okS e0.data.size) = true ∧ (0 < k → okZ e0.data.size = true))) (fun i _ => l.length - (intOf i).toNat)
  case atStart => exact ⟨0, by omega, rfl, Below.refl _ _, Lib.hid ⟨rfl, fun h => by omega⟩⟩
  case round =>
    obtain ⟨k, hk, rfl, hb, HA⟩ := hrel
    have hbw := hB0.trans (hb.mono (by omega))
    have zr := hbw.size
    have hz1 : w.heap.size + 1 ≤ wr.heap.size := by have := hb.size; simp at this; omega
    have t0 := (hb.cell (p := ⟨w.heap.size, 0, none⟩) (Nat.lt_succ_self _)).trans r0
    have t1 := (hb.cell (p := ⟨w.heap.size, 1, none⟩) (Nat.lt_succ_self _)).trans r1
    have tf : ∀ j, wr.frozen? ⟨w.heap.size, j, none⟩ = false := fun j => (hb.frozen (p := ⟨w.heap.size, j, none⟩) (Nat.lt_succ_self _)).trans (by simp [go_sem])
    have tf0 := tf 0
    have tf1 := tf 1
    clear tf
    by_cases hlt : k < l.length
    · obtain ⟨e, he⟩ : ∃ e, l[k]? = some e := ⟨l[k], List.getElem?_eq_getElem hlt⟩
      have p0 := (hbw.cell (p := ⟨g, k * 2, none⟩) hg).trans (P0.out k e he)
      have p1 := (hbw.cell (p := ⟨g, k * 2 + 1, none⟩) hg).trans (P1.out k e he)
      have hme := HMX.out k e he
      have HWs := Lib.hid (fun W => within_i e.state 1 4 W)
      have hbn : Below (w.heap.size + 1) (w.alloc (.cells #[.string .empty, .int .i64 0] 48)) (wr.alloc (.cells #[.string e.data, .int .i64 e.state] 48)) := Below.alloc hb hz1 _
      have hbnw := hB0.trans (hbn.mono (by omega))
      have hnb : w.heap.size ≠ wr.heap.size := by omega
      have u0 := (World.cell?_alloc_old wr (.cells #[.string e.data, .int .i64 e.state] 48) ⟨w.heap.size, 0, none⟩ hnb).trans t0
      have u1 := (World.cell?_alloc_old wr (.cells #[.string e.data, .int .i64 e.state] 48) ⟨w.heap.size, 1, none⟩ hnb).trans t1
      have uf0 := (World.frozen?_alloc_old wr (.cells #[.string e.data, .int .i64 e.state] 48) ⟨w.heap.size, 0, none⟩ hnb).trans tf0
      have uf1 := (World.frozen?_alloc_old wr (.cells #[.string e.data, .int .i64 e.state] 48) ⟨w.heap.size, 1, none⟩ hnb).trans tf1
      have s0 := World.cell?_setCell_other ((wr.alloc (.cells #[.string e.data, .int .i64 e.state] 48)).setCell ⟨w.heap.size, 0, none⟩ (.string { data := #[] })) ⟨w.heap.size, 1, none⟩ ⟨w.heap.size, 0, none⟩ (.int .i64 0) (by intro e; injection e with _ e _; omega)
      rw [World.cell?_setCell_same _ _ _ u0] at s0
      have s1 := World.cell?_setCell_same ((wr.alloc (.cells #[.string e.data, .int .i64 e.state] 48)).setCell ⟨w.heap.size, 0, none⟩ (.string { data := #[] })) ⟨w.heap.size, 1, none⟩ (.int .i64 0) ((World.cell?_setCell_other _ _ _ _ (by intro e; injection e with _ e _; omega)).trans u1)
      have hBF := Below.setCell (Below.setCell hbnw (p := ⟨w.heap.size, 0, none⟩) (Nat.le_refl _) (.string { data := #[] })) (p := ⟨w.heap.size, 1, none⟩) (Nat.le_refl _) (.int .i64 0)
      cases h1 : inB e.state 1 4
      · have HF := Lib.hid (HAT.out k e he (by unfold okS; rw [h1]; rfl))
        rw [h1] at HWs
        clear he
        go_wp2_with (go_at_call 65; refine (HWs.out _).mono ?_; rintro e' w1 ⟨rfl, rfl⟩)
        rw [HF.out]
        exact bodyPost_ret (v := .tuple #[.agg #[.string { data := #[] }, .int .i64 0], .int .i64 0, .int .i64 0, .bool false]) (by simp [results, Try.results31, go_sem, s0, s1]; try done) rfl ⟨rfl, hBF⟩
      · rw [h1] at HWs
        by_cases h2 : e.data.size = e0.data.size
        · have dn : ((e.data.size : Int) != (e0.data.size : Int)) = false := by rw [h2]; simp
          have dn2 : (e.data.size != e0.data.size) = false := by rw [h2]; simp
          cases h3 : okZ e0.data.size
          · have HF := Lib.hid (HZN.out h3)
            have h3' : e0.data.size ≠ 8 ∧ e0.data.size ≠ 16 ∧ e0.data.size ≠ 32 := by unfold okZ at h3; simp at h3; omega
            have d8 : ((e0.data.size : Int) != 8) = true := by rw [bne_iff_ne]; omega
            have d16 : ((e0.data.size : Int) != 16) = true := by rw [bne_iff_ne]; omega
            have d32 : ((e0.data.size : Int) != 32) = true := by rw [bne_iff_ne]; omega
            clear he h3 h3' h2
            go_wp2_with (go_at_call 65; refine (HWs.out _).mono ?_; rintro e' w1 ⟨rfl, rfl⟩)
            rw [HF.out]
            exact bodyPost_ret (v := .tuple #[.agg #[.string { data := #[] }, .int .i64 0], .int .i64 0, .int .i64 0, .bool false]) (by simp [results, Try.results31, go_sem, s0, s1]; try done) rfl ⟨rfl, hBF⟩
          · have HN : Hid ((l.take (k + 1)).all (okS e0.data.size) = true ∧ (0 < k + 1 → okZ e0.data.size = true)) := Lib.hid ⟨all_take HA.out.1 he (by unfold okS; rw [h1, decide_eq_true h2]; rfl), fun _ => h3⟩
            have hz := okZ_le h3
            have hb2 : Below (w.heap.size + 1) (w.alloc (.cells #[.string .empty, .int .i64 0] 48)) (wr.alloc (.cells #[.string e.data, .int .i64 e.state] 48)) := hbn
            clear he h3 h2 s0 s1 u0 u1 hBF
            rcases hz with hz | hz | hz
            · have d8 : ((e0.data.size : Int) != 8) = false := by rw [bne_eq_false_iff_eq]; omega
              have d16 : ((e0.data.size : Int) != 16) = true := by rw [bne_iff_ne]; omega
              have d32 : ((e0.data.size : Int) != 32) = true := by rw [bne_iff_ne]; omega
              clear hz
              go_wp2_with (go_at_call 65; refine (HWs.out _).mono ?_; rintro e' w1 ⟨rfl, rfl⟩)
              go_roundw
              case rel => exact ⟨k + 1, by omega, by go_num, hb2, Lib.hid ⟨HN.out.1, fun h => by first | exact HN.out.2 h | trivial⟩⟩
              case measure => simp [intOf]; omega
            · have d8 : ((e0.data.size : Int) != 8) = true := by rw [bne_iff_ne]; omega
              have d16 : ((e0.data.size : Int) != 16) = false := by rw [bne_eq_false_iff_eq]; omega
              have d32 : ((e0.data.size : Int) != 32) = true := by rw [bne_iff_ne]; omega
              clear hz
              go_wp2_with (go_at_call 65; refine (HWs.out _).mono ?_; rintro e' w1 ⟨rfl, rfl⟩)
              go_roundw
              case rel => exact ⟨k + 1, by omega, by go_num, hb2, Lib.hid ⟨HN.out.1, fun h => by first | exact HN.out.2 h | trivial⟩⟩
              case measure => simp [intOf]; omega
            · have d8 : ((e0.data.size : Int) != 8) = true := by rw [bne_iff_ne]; omega
              have d16 : ((e0.data.size : Int) != 16) = true := by rw [bne_iff_ne]; omega
              have d32 : ((e0.data.size : Int) != 32) = false := by rw [bne_eq_false_iff_eq]; omega
              clear hz
              go_wp2_with (go_at_call 65; refine (HWs.out _).mono ?_; rintro e' w1 ⟨rfl, rfl⟩)
              go_roundw
              case rel => exact ⟨k + 1, by omega, by go_num, hb2, Lib.hid ⟨HN.out.1, fun h => by first | exact HN.out.2 h | trivial⟩⟩
              case measure => simp [intOf]; omega
        · have HF := Lib.hid (HAT.out k e he (by unfold okS; rw [h1, decide_eq_false h2]; rfl))
          have dn : ((e.data.size : Int) != (e0.data.size : Int)) = true := by rw [bne_iff_ne]; omega
          have dn2 : (e.data.size != e0.data.size) = true := by rw [bne_iff_ne]; omega
          clear he
          go_wp2_with (go_at_call 65; refine (HWs.out _).mono ?_; rintro e' w1 ⟨rfl, rfl⟩)
          rw [HF.out]
          exact bodyPost_ret (v := .tuple #[.agg #[.string { data := #[] }, .int .i64 0], .int .i64 0, .int .i64 0, .bool false]) (by simp [results, Try.results31, go_sem, s0, s1]; try done) rfl ⟨rfl, hBF⟩
    · obtain rfl : k = l.length := by omega
      have hz := HA.out.2 hl0
      have hok : mgOk l = true := HOK.out hz (by have := HA.out.1; rwa [List.take_length] at this)
      have HF := Lib.hid (mgE_yes hok)
      have hz2 := okZ_le hz
      have HMM := Lib.hid (HM.out wr hbw hne e0.data.size (HSZ.out hok) (by omega))
      unfold mgV at HMM
      generalize mgS l = M at *
      obtain ⟨⟨md, ms⟩, mf, ma⟩ := M
      clear HA HM HSZ HOK HAT HZN HMX hz hok hz2
      go_wp2_with (fail)
      refine HMM.out.mono ?_; rintro e w4 ⟨rfl, hb4⟩
      have hB4 := hbw.trans (hb4.mono zr)
      have v0 := (hb4.cell (p := ⟨w.heap.size, 0, none⟩) (by show w.heap.size < _; omega)).trans t0
      have v1 := (hb4.cell (p := ⟨w.heap.size, 1, none⟩) (by show w.heap.size < _; omega)).trans t1
      have vf0 := (hb4.frozen (p := ⟨w.heap.size, 0, none⟩) (by show w.heap.size < _; omega)).trans tf0
      have vf1 := (hb4.frozen (p := ⟨w.heap.size, 1, none⟩) (by show w.heap.size < _; omega)).trans tf1
      have z4 := hb4.size
      have hnb : w.heap.size ≠ w4.heap.size := by omega
      have u0 := (World.cell?_alloc_old w4 (.cells #[.string md, .int .i64 ms] 48) ⟨w.heap.size, 0, none⟩ hnb).trans v0
      have u1 := (World.cell?_alloc_old w4 (.cells #[.string md, .int .i64 ms] 48) ⟨w.heap.size, 1, none⟩ hnb).trans v1
      have uf0 := (World.frozen?_alloc_old w4 (.cells #[.string md, .int .i64 ms] 48) ⟨w.heap.size, 0, none⟩ hnb).trans vf0
      have uf1 := (World.frozen?_alloc_old w4 (.cells #[.string md, .int .i64 ms] 48) ⟨w.heap.size, 1, none⟩ hnb).trans vf1
      have s0 := World.cell?_setCell_other ((w4.alloc (.cells #[.string md, .int .i64 ms] 48)).setCell ⟨w.heap.size, 0, none⟩ (.string md)) ⟨w.heap.size, 1, none⟩ ⟨w.heap.size, 0, none⟩ (.int .i64 ms) (by intro e; injection e with _ e _; omega)
      rw [World.cell?_setCell_same _ _ _ u0] at s0
      have s1 := World.cell?_setCell_same ((w4.alloc (.cells #[.string md, .int .i64 ms] 48)).setCell ⟨w.heap.size, 0, none⟩ (.string md)) ⟨w.heap.size, 1, none⟩ (.int .i64 ms) ((World.cell?_setCell_other _ _ _ _ (by intro e; injection e with _ e _; omega)).trans u1)
      have hBF := Below.setCell (Below.setCell (Below.alloc hB4 (by omega) (.cells #[.string md, .int .i64 ms] 48)) (p := ⟨w.heap.size, 0, none⟩) (Nat.le_refl _) (.string md)) (p := ⟨w.heap.size, 1, none⟩) (Nat.le_refl _) (.int .i64 ms)
      go_wp2
      rw [HF.out]
      exact bodyPost_ret (v := .tuple #[.agg #[.string md, .int .i64 ms], .int .i64 mf, .int .i64 ma, .bool true]) (by simp [results, Try.results31, go_sem, s0, s1]; try done) rfl ⟨rfl, hBF⟩
end Go.Proofs.Ytignjjkldmninaa
