/- MergeSector, spec: the walk. -/
import Derived.Test.YtignjjkldmninaaMgE
namespace Go.Proofs.Ytignjjkldmninaa
set_option linter.unusedVariables false
open Go.RowKit
set_option maxHeartbeats 2000000 in
theorem has3_s (g n : Nat) (w : World) (h0 : w.cell? ⟨g, 0, none⟩ = some (.int .i64 8)) (h1 : w.cell? ⟨g, 1, none⟩ = some (.int .i64 16)) (h2 : w.cell? ⟨g, 2, none⟩ = some (.int .i64 32)) (hn : n ≤ 9223372036854775807) :
    Calls Try.prog 109 #[.slice (some ⟨g, 0, none⟩) 3 3, .int .i64 n] w fun e w' => e = .returned (.bool (okZ n)) ∧ w = w' := by
  have HZ : Hid (okZ n = (n == 8 || n == 16 || n == 32)) := Lib.hid rfl
  go_enter Try.func109, Try.ntmps109
  go_wp2
  go_loop [5] (fun j => ∃ k : Nat, k ≤ 3 ∧ j = .int .i64 k ∧ Hid ((0 < k → n ≠ 8) ∧ (1 < k → n ≠ 16) ∧ (2 < k → n ≠ 32))) (fun j => 3 - (intOf j).toNat)
  case atStart => exact ⟨0, by omega, rfl, Lib.hid ⟨by omega, by omega, by omega⟩⟩
  case round =>
    obtain ⟨k, hk, rfl, HK⟩ := hrel
    have hc : k = 0 ∨ k = 1 ∨ k = 2 ∨ k = 3 := by omega
    rcases hc with rfl | rfl | rfl | rfl
    · cases hd : ((8 : Int) == (n : Int))
      · have hne : n ≠ 8 := by rintro rfl; simp at hd
        have HN : Hid ((0 < 1 → n ≠ 8) ∧ (1 < 1 → n ≠ 16) ∧ (2 < 1 → n ≠ 32)) := Lib.hid ⟨fun _ => hne, by omega, by omega⟩
        clear hne
        go_wp2
        go_round
        case rel => exact ⟨1, by omega, by go_num, HN⟩
        case measure => simp [intOf]
      · have hne : n = 8 := by have : (8 : Int) = (n : Int) := by simpa using hd
                               omega
        have HR : Hid (okZ n = true) := Lib.hid (by rw [hne]; rfl)
        clear hne
        go_wp2
        go_ret
        exact ⟨ret_bool HR.out.symm, rfl⟩
    · cases hd : ((16 : Int) == (n : Int))
      · have hne : n ≠ 16 := by rintro rfl; simp at hd
        have HN : Hid ((0 < 2 → n ≠ 8) ∧ (1 < 2 → n ≠ 16) ∧ (2 < 2 → n ≠ 32)) := Lib.hid ⟨fun _ => HK.out.1 (by omega), fun _ => hne, by omega⟩
        clear hne
        go_wp2
        go_round
        case rel => exact ⟨2, by omega, by go_num, HN⟩
        case measure => simp [intOf]
      · have hne : n = 16 := by have : (16 : Int) = (n : Int) := by simpa using hd
                                omega
        have HR : Hid (okZ n = true) := Lib.hid (by rw [hne]; rfl)
        clear hne
        go_wp2
        go_ret
        exact ⟨ret_bool HR.out.symm, rfl⟩
    · cases hd : ((32 : Int) == (n : Int))
      · have hne : n ≠ 32 := by rintro rfl; simp at hd
        have HN : Hid ((0 < 3 → n ≠ 8) ∧ (1 < 3 → n ≠ 16) ∧ (2 < 3 → n ≠ 32)) := Lib.hid ⟨fun _ => HK.out.1 (by omega), fun _ => HK.out.2.1 (by omega), fun _ => hne⟩
        clear hne
        go_wp2
        go_round
        case rel => exact ⟨3, by omega, by go_num, HN⟩
        case measure => simp [intOf]
      · have hne : n = 32 := by have : (32 : Int) = (n : Int) := by simpa using hd
                                omega
        have HR : Hid (okZ n = true) := Lib.hid (by rw [hne]; rfl)
        clear hne
        go_wp2
        go_ret
        exact ⟨ret_bool HR.out.symm, rfl⟩
    · have HR : Hid (okZ n = false) := Lib.hid (by
        obtain ⟨a, b, c⟩ := HK.out
        have := a (by omega); have := b (by omega); have := c (by omega)
        unfold okZ; simp; omega)
      go_wp2
      go_ret
      exact ⟨ret_bool HR.out.symm, rfl⟩
set_option maxRecDepth 20000 in
set_option maxHeartbeats 4000000 in
theorem secs_s (B : Nat) (l : List Sec) (v : Value) (w : World) (h : SecOwn B w v l) (hn : l.length ≤ 1048576) (hm : ∀ s ∈ l, s.data.size ≤ maxLen) :
    Calls Try.prog 77 #[v] w fun e w' => e = .returned (.bool (mgOk l)) ∧ Below w.heap.size w w' := by
  unfold maxLen at hm
  have HW := Lib.hid (fun W => in_s (l.length : Int) 1 5 W)
  obtain ⟨A, c, rfl, hA⟩ := OwnL.shape h
  cases hin : inB (l.length : Int) 1 5
  · have hlen : ¬ (1 ≤ l.length ∧ l.length ≤ 5) := fun hc => by rw [inB_t (by omega)] at hin; cases hin
    have HF := Lib.hid (mgOk_len hlen)
    rw [hin] at HW
    clear hlen hin hA
    go_enter Try.func77, Try.ntmps77
    go_wp2_with (go_at_call 105; refine (HW.out _).mono ?_; rintro e w1 ⟨rfl, rfl⟩)
    go_ret
    exact ⟨ret_bool HF.out.symm, Below.refl _ _⟩
  rw [hin] at HW
  have hlen := inB_yes hin
  have h5 : l.length ≤ 5 := by omega
  have hne : l ≠ [] := by rintro rfl; simp at hlen
  obtain ⟨g, rfl, _, hg⟩ := hA.resolve_left hne
  have P0 : Hid (∀ k e, l[k]? = some e → w.cell? ⟨g, k * 2, none⟩ = some (.string e.data)) := Lib.hid fun k e hk => by have := OwnL.cell Sec.len h hk (j := 0) rfl; simpa using this
  have P1 : Hid (∀ k e, l[k]? = some e → w.cell? ⟨g, k * 2 + 1, none⟩ = some (.int .i64 e.state)) := Lib.hid fun k e hk => OwnL.cell Sec.len h hk (j := 1) rfl
  have hl0 : 0 < l.length := List.length_pos_iff.2 hne
  have hl1 : (0 : Int) < (l.length : Int) := by omega
  obtain ⟨e0, he0⟩ : ∃ e, l[0]? = some e := ⟨l[0], List.getElem?_eq_getElem hl0⟩
  have p00 : w.cell? ⟨g, 0, none⟩ = some (.string e0.data) := by have := P0.out 0 e0 he0; simpa using this
  have HZN := Lib.hid (fun (hz : okZ e0.data.size = false) => mgOk_z he0 h5 hz)
  have HAT := Lib.hid (fun k s (hs : l[k]? = some s) (h : okS e0.data.size s = false) => mgOk_at he0 h5 hs h)
  have HOK := Lib.hid (fun (hz : okZ e0.data.size = true) (ha : l.all (okS e0.data.size) = true) => show mgOk l = true from by rw [mgOk_first he0 h5, hz, ha]; rfl)
  have HMX := Lib.hid (fun k s (hs : l[k]? = some s) => hm s (List.mem_of_getElem? hs))
  have hm0 := hm e0 (List.mem_of_getElem? he0)
  clear hin hA h he0 hm
  go_enter Try.func77, Try.ntmps77
  go_wp2_with (go_at_call 105; refine (HW.out _).mono ?_; rintro e w1 ⟨rfl, rfl⟩)
  go_loopw [3] (fun i wr => ∃ k : Nat, k ≤ l.length ∧ i = .int .i64 k ∧ Below w.heap.size w wr ∧ Hid ((l.take k).all (okS e0.data.size) = true ∧ (0 < k → okZ e0.data.size = true))) (fun i _ => l.length - (intOf i).toNat)
  case atStart => exact ⟨0, by omega, rfl, Below.refl _ _, Lib.hid ⟨rfl, fun h => by omega⟩⟩
  case round =>
    obtain ⟨k, hk, rfl, hbw, HA⟩ := hrel
    have zr := hbw.size
    by_cases hlt : k < l.length
    · obtain ⟨e, he⟩ : ∃ e, l[k]? = some e := ⟨l[k], List.getElem?_eq_getElem hlt⟩
      have p0 := (hbw.cell (p := ⟨g, k * 2, none⟩) hg).trans (P0.out k e he)
      have p1 := (hbw.cell (p := ⟨g, k * 2 + 1, none⟩) hg).trans (P1.out k e he)
      have p2 := (hbw.cell (p := ⟨g, 0, none⟩) hg).trans p00
      have hme := HMX.out k e he
      have HWs := Lib.hid (fun W => in_s e.state 1 4 W)
      have hgr : g ≠ wr.heap.size := by omega
      cases h1 : inB e.state 1 4
      · have HF := Lib.hid (HAT.out k e he (by unfold okS; rw [h1]; rfl))
        rw [h1] at HWs
        clear he
        have y0 : ∀ x : Wb wr, x.1.cell? ⟨g, k * 2, none⟩ = some (.string e.data) := fun x => Wb.cell p0 x
        have y1 : ∀ x : Wb wr, x.1.cell? ⟨g, k * 2 + 1, none⟩ = some (.int .i64 e.state) := fun x => Wb.cell p1 x
        have y2 : ∀ x : Wb wr, x.1.cell? ⟨g, 0, none⟩ = some (.string e0.data) := fun x => Wb.cell p2 x
        go_wp2_with (fail)
        refine wp_region_wb (by kernel_rfl) (by kernel_rfl) ?_
        repeat (go_big_quiet_step ((go_at_call 105; exact Wb.same (HWs.out _))))
        refine wpQuiet_nil ?_; rintro w1 ⟨⟨w1', hb1⟩, rfl⟩
        go_wp2
        go_ret
        exact ⟨ret_bool HF.out.symm, hbw.trans (hb1.mono zr)⟩
      · rw [h1] at HWs
        by_cases h2 : e.data.size = e0.data.size
        · have dn : ((e.data.size : Int) != (e0.data.size : Int)) = false := by rw [h2]; simp
          have dn2 : (e.data.size != e0.data.size) = false := by rw [h2]; simp
          have HH3 := Lib.hid (fun G W h0 h1 h2 => has3_s G e.data.size W h0 h1 h2 (by omega))
          have hzeq : okZ e.data.size = okZ e0.data.size := by rw [h2]
          rw [hzeq] at HH3
          have HN0 := Lib.hid (fun (hz : okZ e0.data.size = true) => all_take HA.out.1 he (by unfold okS; rw [h1, decide_eq_true h2]; rfl))
          have hlen' : e.data.size ≤ 2 ^ 63 - 1 := hme
          cases h3 : okZ e0.data.size
          all_goals
            rw [h3] at HH3
            have q0 : wr.drew.cell? ⟨g, k * 2, none⟩ = some (.string e.data) := p0
            have q1 : wr.drew.cell? ⟨g, k * 2 + 1, none⟩ = some (.int .i64 e.state) := p1
            have q2 : wr.drew.cell? ⟨g, 0, none⟩ = some (.string e0.data) := p2
            have z0 : (wr.drew.alloc (.cells #[.int .i64 8, .int .i64 16, .int .i64 32] 2)).cell? ⟨g, k * 2, none⟩ = some (.string e.data) := (World.cell?_alloc_old _ _ _ hgr).trans p0
            have z1 : (wr.drew.alloc (.cells #[.int .i64 8, .int .i64 16, .int .i64 32] 2)).cell? ⟨g, k * 2 + 1, none⟩ = some (.int .i64 e.state) := (World.cell?_alloc_old _ _ _ hgr).trans p1
            have z2 : (wr.drew.alloc (.cells #[.int .i64 8, .int .i64 16, .int .i64 32] 2)).cell? ⟨g, 0, none⟩ = some (.string e0.data) := (World.cell?_alloc_old _ _ _ hgr).trans p2
            have hBn : Below w.heap.size w (wr.drew.alloc (.cells #[.int .i64 8, .int .i64 16, .int .i64 32] 2)) := Below.alloc hbw.drew zr _
            clear h2 hzeq
            go_wp2_with (fail)
            go_region_held3 (fun w' => w'.cell? ⟨g, k * 2, none⟩ = some (.string e.data) ∧ w'.cell? ⟨g, k * 2 + 1, none⟩ = some (.int .i64 e.state) ∧ w'.cell? ⟨g, 0, none⟩ = some (.string e0.data))
              (first | exact ⟨q0, q1, q2⟩ | exact ⟨z0, z1, z2⟩ | go_keep)
              (first | (go_at_call 105; refine (HWs.out _).mono ?_; rintro e' w1 ⟨rfl, rfl⟩) | (go_at_call 109; refine (HH3.out _ _ (by simp [go_sem]) (by simp [go_sem]) (by simp [go_sem])).mono ?_; rintro e' w1 ⟨rfl, rfl⟩))
          · have HF := Lib.hid (HZN.out h3)
            go_wp2
            go_ret
            exact ⟨ret_bool HF.out.symm, hBn⟩
          · have HN : Hid ((l.take (k + 1)).all (okS e0.data.size) = true ∧ (0 < k + 1 → okZ e0.data.size = true)) := Lib.hid ⟨HN0.out h3, fun _ => h3⟩
            go_wp2
            go_roundw
            case rel => exact ⟨k + 1, by omega, by go_num, hBn, Lib.hid ⟨HN.out.1, fun h => by first | exact HN.out.2 h | trivial⟩⟩
            case measure => simp [intOf]; omega
        · have HF := Lib.hid (HAT.out k e he (by unfold okS; rw [h1, decide_eq_false h2]; rfl))
          have dn : ((e.data.size : Int) != (e0.data.size : Int)) = true := by rw [bne_iff_ne]; omega
          have dn2 : (e.data.size != e0.data.size) = true := by rw [bne_iff_ne]; omega
          have y0 : ∀ x : Wb wr, x.1.cell? ⟨g, k * 2, none⟩ = some (.string e.data) := fun x => Wb.cell p0 x
          have y1 : ∀ x : Wb wr, x.1.cell? ⟨g, k * 2 + 1, none⟩ = some (.int .i64 e.state) := fun x => Wb.cell p1 x
          have y2 : ∀ x : Wb wr, x.1.cell? ⟨g, 0, none⟩ = some (.string e0.data) := fun x => Wb.cell p2 x
          clear he
          go_wp2_with (fail)
          refine wp_region_wb (by kernel_rfl) (by kernel_rfl) ?_
          repeat (go_big_quiet_step ((go_at_call 105; exact Wb.same (HWs.out _))))
          refine wpQuiet_nil ?_; rintro w1 ⟨⟨w1', hb1⟩, rfl⟩
          go_wp2
          go_ret
          exact ⟨ret_bool HF.out.symm, hbw.trans (hb1.mono zr)⟩
    · obtain rfl : k = l.length := by omega
      have HF := Lib.hid (HOK.out (HA.out.2 hl0) (by have := HA.out.1; rwa [List.take_length] at this))
      go_wp2
      go_ret
      exact ⟨ret_bool HF.out.symm, hbw⟩
set_option maxRecDepth 20000 in
set_option maxHeartbeats 2000000 in
theorem mge_s (B : Nat) (l : List Sec) (v : Value) (w : World) (h : SecOwn B w v l) (hn : l.length ≤ 1048576) (hm : ∀ s ∈ l, s.data.size ≤ maxLen) :
    Calls Try.prog 29 #[v] w fun e w' => e = .returned (mgT (mgE l)) ∧ Below w.heap.size w w' := by
  have HSS := Lib.hid (fun W (hb : Below w.heap.size w W) => secs_s B l v W (OwnL.below h hb) hn hm)
  unfold maxLen at hm
  have HM := Lib.hid (fun W (hb : Below w.heap.size w W) (h0 : l ≠ []) n (hs : ∀ s ∈ l, s.data.size = n) (hn2 : n ≤ 1048576) => lsec_s B l v W (OwnL.below h hb) hn h0 n hs hn2)
  obtain ⟨A, c, rfl, hA⟩ := OwnL.shape h
  have hB0 : Below w.heap.size w (w.alloc (.cells #[.string { data := #[] }, .int .i64 0] 48)) := Below.alloc (Below.refl _ _) (Nat.le_refl _) _
  have r0 : (w.alloc (.cells #[.string { data := #[] }, .int .i64 0] 48)).cell? ⟨w.heap.size, 0, none⟩ = some (.string { data := #[] }) := by simp [go_sem]
  have r1 : (w.alloc (.cells #[.string { data := #[] }, .int .i64 0] 48)).cell? ⟨w.heap.size, 1, none⟩ = some (.int .i64 0) := by simp [go_sem]
  have rf0 : (w.alloc (.cells #[.string { data := #[] }, .int .i64 0] 48)).frozen? ⟨w.heap.size, 0, none⟩ = false := by simp [go_sem]
  have rf1 : (w.alloc (.cells #[.string { data := #[] }, .int .i64 0] 48)).frozen? ⟨w.heap.size, 1, none⟩ = false := by simp [go_sem]
  have hz0 : w.heap.size < (w.alloc (.cells #[.string { data := #[] }, .int .i64 0] 48)).heap.size := by simp
  clear hA h
  cases hok : mgOk l
  · have HF := Lib.hid (mgE_no hok)
    have HS2 := Lib.hid (HSS.out _ hB0)
    rw [hok] at HS2
    clear HM HSS hok
    go_enter Try.func29, Try.ntmps29
    go_wp2_with (fail)
    refine HS2.out.mono ?_; rintro e w1 ⟨rfl, hb1⟩
    have hB1 := hB0.trans (hb1.mono (Nat.le_of_lt hz0))
    have t0 := (hb1.cell (p := ⟨w.heap.size, 0, none⟩) hz0).trans r0
    have t1 := (hb1.cell (p := ⟨w.heap.size, 1, none⟩) hz0).trans r1
    have tf0 := (hb1.frozen (p := ⟨w.heap.size, 0, none⟩) hz0).trans rf0
    have tf1 := (hb1.frozen (p := ⟨w.heap.size, 1, none⟩) hz0).trans rf1
    have s0 := World.cell?_setCell_other (w1.setCell ⟨w.heap.size, 0, none⟩ (.string { data := #[] })) ⟨w.heap.size, 1, none⟩ ⟨w.heap.size, 0, none⟩ (.int .i64 0) (by intro e; injection e with _ e _; omega)
    rw [World.cell?_setCell_same _ _ _ t0] at s0
    have s1 := World.cell?_setCell_same (w1.setCell ⟨w.heap.size, 0, none⟩ (.string { data := #[] })) ⟨w.heap.size, 1, none⟩ (.int .i64 0) ((World.cell?_setCell_other _ _ _ _ (by intro e; injection e with _ e _; omega)).trans t1)
    go_wp2
    rw [HF.out]
    exact bodyPost_ret (v := .tuple #[.agg #[.string { data := #[] }, .int .i64 0], .int .i64 0, .int .i64 0, .bool false]) (by simp [results, Try.results29, go_sem, s0, s1]; try done) rfl ⟨rfl, Below.setCell (Below.setCell hB1 (p := ⟨w.heap.size, 0, none⟩) (Nat.le_refl _) _) (p := ⟨w.heap.size, 1, none⟩) (Nat.le_refl _) _⟩
  · have HF := Lib.hid (mgE_yes hok)
    have HS2 := Lib.hid (HSS.out _ hB0)
    rw [hok] at HS2
    have hne : l ≠ [] := by rintro rfl; cases hok
    obtain ⟨e0, he0⟩ : ∃ e, l[0]? = some e := ⟨l[0]'(List.length_pos_iff.2 hne), List.getElem?_eq_getElem _⟩
    have hz : okZ e0.data.size = true := by
      cases hz : okZ e0.data.size with
      | true => rfl
      | false =>
        have h5 : l.length ≤ 5 := by
          apply Classical.byContradiction; intro hc
          rw [mgOk_len (by omega)] at hok; cases hok
        rw [mgOk_z he0 h5 hz] at hok; cases hok
    have hz2 := okZ_le hz
    have HM2 := Lib.hid (fun W hb => HM.out W hb hne e0.data.size (mgOk_sizes he0 hok) (by omega))
    unfold mgV at HM2
    generalize mgS l = M at *
    obtain ⟨⟨md, ms⟩, mf, ma⟩ := M
    clear HM HSS hok hz hz2 he0 hne
    go_enter Try.func29, Try.ntmps29
    go_wp2_with (fail)
    refine HS2.out.mono ?_; rintro e w1 ⟨rfl, hb1⟩
    have hB1 := hB0.trans (hb1.mono (Nat.le_of_lt hz0))
    have z1 := hb1.size
    go_wp2_with (fail)
    refine (HM2.out _ hB1).mono ?_; rintro e w4 ⟨rfl, hb4⟩
    have hB4 := hB1.trans (hb4.mono hB1.size)
    have z4 := hb4.size
    have hb04 := hb1.trans (hb4.mono z1)
    have v0 := (hb04.cell (p := ⟨w.heap.size, 0, none⟩) hz0).trans r0
    have v1 := (hb04.cell (p := ⟨w.heap.size, 1, none⟩) hz0).trans r1
    have vf0 := (hb04.frozen (p := ⟨w.heap.size, 0, none⟩) hz0).trans rf0
    have vf1 := (hb04.frozen (p := ⟨w.heap.size, 1, none⟩) hz0).trans rf1
    have hz4 : w.heap.size < w4.heap.size := by omega
    have hnb : w.heap.size ≠ w4.heap.size := by omega
    have u0 := (World.cell?_alloc_old w4 (.cells #[.string md, .int .i64 ms] 48) ⟨w.heap.size, 0, none⟩ hnb).trans v0
    have u1 := (World.cell?_alloc_old w4 (.cells #[.string md, .int .i64 ms] 48) ⟨w.heap.size, 1, none⟩ hnb).trans v1
    have uf0 := (World.frozen?_alloc_old w4 (.cells #[.string md, .int .i64 ms] 48) ⟨w.heap.size, 0, none⟩ hnb).trans vf0
    have uf1 := (World.frozen?_alloc_old w4 (.cells #[.string md, .int .i64 ms] 48) ⟨w.heap.size, 1, none⟩ hnb).trans vf1
    have s0a := World.cell?_setCell_other (w4.setCell ⟨w.heap.size, 0, none⟩ (.string md)) ⟨w.heap.size, 1, none⟩ ⟨w.heap.size, 0, none⟩ (.int .i64 ms) (by intro e; injection e with _ e _; omega)
    rw [World.cell?_setCell_same _ _ _ v0] at s0a
    have s1a := World.cell?_setCell_same (w4.setCell ⟨w.heap.size, 0, none⟩ (.string md)) ⟨w.heap.size, 1, none⟩ (.int .i64 ms) ((World.cell?_setCell_other _ _ _ _ (by intro e; injection e with _ e _; omega)).trans v1)
    have hnX : w.heap.size ≠ ((w4.setCell ⟨w.heap.size, 0, none⟩ (.string md)).setCell ⟨w.heap.size, 1, none⟩ (.int .i64 ms)).heap.size := by simp; omega
    have s0 := (World.cell?_alloc_old ((w4.setCell ⟨w.heap.size, 0, none⟩ (.string md)).setCell ⟨w.heap.size, 1, none⟩ (.int .i64 ms)) (.cells #[.string md, .int .i64 ms] 48) ⟨w.heap.size, 0, none⟩ hnX).trans s0a
    have s1 := (World.cell?_alloc_old ((w4.setCell ⟨w.heap.size, 0, none⟩ (.string md)).setCell ⟨w.heap.size, 1, none⟩ (.int .i64 ms)) (.cells #[.string md, .int .i64 ms] 48) ⟨w.heap.size, 1, none⟩ hnX).trans s1a
    have hBF := Below.alloc (Below.setCell (Below.setCell hB4 (p := ⟨w.heap.size, 0, none⟩) (Nat.le_refl _) (.string md)) (p := ⟨w.heap.size, 1, none⟩) (Nat.le_refl _) (.int .i64 ms)) (by simp; omega) (.cells #[.string md, .int .i64 ms] 48)
    go_wp2
    rw [HF.out]
    exact bodyPost_ret (v := .tuple #[.agg #[.string md, .int .i64 ms], .int .i64 mf, .int .i64 ma, .bool true]) (by simp [results, Try.results29, go_sem, s0, s1]; try done) rfl ⟨rfl, hBF⟩
end Go.Proofs.Ytignjjkldmninaa
