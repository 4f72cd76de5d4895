/- Dumps that are valid, the reference: the walk. -/
import Derived.Test.YtignjjkldmninaaVDumps
namespace Go.Proofs.Ytignjjkldmninaa
set_option linter.unusedVariables false
open Go.RowKit
set_option maxRecDepth 20000 in
set_option maxHeartbeats 4000000 in
theorem dumpsL_s (B : Nat) (l : List Dsc) (v : Value) (w : World) (h : DscOwn B w v l) (hn : l.length ≤ 1048576) (hb2 : ∀ d ∈ l, d.secs.length ≤ 1048576) (hm : ∀ d ∈ l, ∀ s ∈ d.secs, s.data.size ≤ maxLen) :
    Calls Try.prog 64 #[v] w fun e w' => e = .returned (.bool (dumpsOk l)) ∧ Below w.heap.size w w' := by
  obtain ⟨A, c, rfl, hA⟩ := h
  by_cases hlen : 1 ≤ l.length ∧ l.length ≤ 5
  · obtain ⟨g, rfl, _, hg, hc⟩ := hA.resolve_left (by rintro rfl; simp at hlen)
    have b0 : inB l.length 1 5 = true := inB_t (by omega)
    obtain ⟨z, hz⟩ : ∃ z, l[0]? = some z := ⟨l[0]'(by omega), List.getElem?_eq_getElem (by omega)⟩
    have HF := Lib.hid (du_at hz hlen.2)
    obtain ⟨bz, o0, cz⟩ := hc 0 z hz
    obtain ⟨Az, ccz, rfl, _⟩ := OwnL.shape o0
    have HC := Lib.hid hc
    have HZ : Hid (∀ (j : Nat) (u : Value), (z.ints ++ [.slice Az z.secs.length ccz])[j]? = some u → w.cell? ⟨g, j, none⟩ = some u) := Lib.hid (fun j u hu => by have := cz j u hu; simpa using this)
    clear hA hc cz o0 hz
    go_enter Try.func64, Try.ntmps64
    go_wp2_with (first | (go_at_call 105; refine (in_s _ _ _ _).mono ?_; rintro e w1 ⟨rfl, rfl⟩))
    go_loopw [3] (fun i wr => ∃ k : Nat, k ≤ l.length ∧ i = .int .i64 k ∧ Below w.heap.size w wr ∧ Hid (dumpsOk l = (l.drop k).all fun d => discOk d && sameG d z)) (fun i _ => l.length - (intOf i).toNat)
    case atStart => exact ⟨0, by omega, rfl, Below.refl _ _, HF⟩
    case round =>
      obtain ⟨k, hk, rfl, hb, HK⟩ := hrel
      have zr := hb.size
      by_cases hlt : k < l.length
      · obtain ⟨e, he⟩ : ∃ e, l[k]? = some e := ⟨l[k], List.getElem?_eq_getElem hlt⟩
        obtain ⟨bv, o1, c1⟩ := HC.out k e he
        have PC := fun (j : Nat) (u : Value) (hu : (e.ints ++ [bv])[j]? = some u) => (hb.cell (p := ⟨g, k * 5 + j, none⟩) hg).trans (c1 j u hu)
        have p0 : wr.cell? ⟨g, k * 5, none⟩ = some (.int .i64 e.cyl) := PC 0 _ rfl
        have p1 := PC 1 _ rfl
        have p2 := PC 2 _ rfl
        have p3 := PC 3 _ rfl
        have p4 := PC 4 _ rfl
        have hmem := List.mem_of_getElem? he
        obtain ⟨A2, c2, rfl, _⟩ := OwnL.shape o1
        have cpB : Below w.heap.size w (wr.alloc (.cells #[.int .i64 e.cyl, .int .i64 e.heads, .int .i64 e.per, .int .i64 e.size, .slice A2 e.secs.length c2] 39)) := Below.alloc hb zr _
        have HD : Hid (∀ x : Wb (wr.alloc (.cells #[.int .i64 e.cyl, .int .i64 e.heads, .int .i64 e.per, .int .i64 e.size, .slice A2 e.secs.length c2] 39)), Calls Try.prog 62 #[dscV e (.slice A2 e.secs.length c2)] x.1 fun e' w' => e' = .returned (.bool (discOk e)) ∧ Below x.1.heap.size x.1 w') := Lib.hid (fun x => disc_s B e _ x.1 (OwnL.below (OwnL.below o1 cpB) x.2) (hb2 e hmem) (hm e hmem))
        have QZ := fun (j : Nat) (u : Value) (hu : (z.ints ++ [.slice Az z.secs.length ccz])[j]? = some u) (x : Wb (wr.alloc (.cells #[.int .i64 e.cyl, .int .i64 e.heads, .int .i64 e.per, .int .i64 e.size, .slice A2 e.secs.length c2] 39))) => Wb.cell (b := g) (o := j) ((World.cell?_alloc_old _ _ _ (by show g ≠ wr.heap.size; omega)).trans ((hb.cell (p := ⟨g, j, none⟩) hg).trans (HZ.out j u hu))) x
        have y0 := QZ 0 _ rfl
        have y1 := QZ 1 _ rfl
        have y2 := QZ 2 _ rfl
        have y3 := QZ 3 _ rfl
        have y4 := QZ 4 _ rfl
        have e0 : ∀ x : Wb (wr.alloc (.cells #[.int .i64 e.cyl, .int .i64 e.heads, .int .i64 e.per, .int .i64 e.size, .slice A2 e.secs.length c2] 39)), x.1.cell? ⟨wr.heap.size, 0, none⟩ = some (.int .i64 e.cyl) := fun x => Wb.cell (by simp) x
        have e1 : ∀ x : Wb (wr.alloc (.cells #[.int .i64 e.cyl, .int .i64 e.heads, .int .i64 e.per, .int .i64 e.size, .slice A2 e.secs.length c2] 39)), x.1.cell? ⟨wr.heap.size, 1, none⟩ = some (.int .i64 e.heads) := fun x => Wb.cell (by simp) x
        have e2 : ∀ x : Wb (wr.alloc (.cells #[.int .i64 e.cyl, .int .i64 e.heads, .int .i64 e.per, .int .i64 e.size, .slice A2 e.secs.length c2] 39)), x.1.cell? ⟨wr.heap.size, 2, none⟩ = some (.int .i64 e.per) := fun x => Wb.cell (by simp) x
        have e3 : ∀ x : Wb (wr.alloc (.cells #[.int .i64 e.cyl, .int .i64 e.heads, .int .i64 e.per, .int .i64 e.size, .slice A2 e.secs.length c2] 39)), x.1.cell? ⟨wr.heap.size, 3, none⟩ = some (.int .i64 e.size) := fun x => Wb.cell (by simp) x
        have e4 : ∀ x : Wb (wr.alloc (.cells #[.int .i64 e.cyl, .int .i64 e.heads, .int .i64 e.per, .int .i64 e.size, .slice A2 e.secs.length c2] 39)), x.1.cell? ⟨wr.heap.size, 4, none⟩ = some (.slice A2 e.secs.length c2) := fun x => Wb.cell (by simp) x
        have HE := Lib.hid he
        have hl0 : 0 < l.length := by omega
        clear o1 c1 PC QZ he
        cases h1 : discOk e
        · have HN := du_no (z := z) HE.out HK (by rw [h1]; rfl)
          go_wp2_with (fail)
          refine wp_region_wb (by kernel_rfl) (by kernel_rfl) ?_; (repeat (go_big_quiet_step (first | (go_at_call 62; exact Wb.calls (HD.out _))))); refine wpQuiet_nil ?_; rintro w1 ⟨⟨w1', hb1⟩, rfl⟩
          go_wp2
          go_ret
          exact ⟨ret_bool HN.symm, cpB.trans (hb1.mono (by simp; omega))⟩
        · cases h2 : (e.cyl == z.cyl)
          · have HN := du_no (z := z) HE.out HK (by unfold sameG; rw [h1, h2]; rfl)
            have d0 : (e.cyl != z.cyl) = true := by unfold bne; rw [h2]; rfl
            go_wp2_with (fail)
            refine wp_region_wb (by kernel_rfl) (by kernel_rfl) ?_; (repeat (go_big_quiet_step (first | (go_at_call 62; exact Wb.calls (HD.out _))))); refine wpQuiet_nil ?_; rintro w1 ⟨⟨w1', hb1⟩, rfl⟩
            go_wp2
            go_ret
            exact ⟨ret_bool HN.symm, cpB.trans (hb1.mono (by simp; omega))⟩
          · cases h3 : (e.heads == z.heads)
            · have HN := du_no (z := z) HE.out HK (by unfold sameG; rw [h1, h2, h3]; rfl)
              have d0 : (e.cyl != z.cyl) = false := by unfold bne; rw [h2]; rfl
              have d1 : (e.heads != z.heads) = true := by unfold bne; rw [h3]; rfl
              go_wp2_with (fail)
              refine wp_region_wb (by kernel_rfl) (by kernel_rfl) ?_; (repeat (go_big_quiet_step (first | (go_at_call 62; exact Wb.calls (HD.out _))))); refine wpQuiet_nil ?_; rintro w1 ⟨⟨w1', hb1⟩, rfl⟩
              go_wp2
              go_ret
              exact ⟨ret_bool HN.symm, cpB.trans (hb1.mono (by simp; omega))⟩
            · cases h4 : (e.per == z.per)
              · have HN := du_no (z := z) HE.out HK (by unfold sameG; rw [h1, h2, h3, h4]; rfl)
                have d0 : (e.cyl != z.cyl) = false := by unfold bne; rw [h2]; rfl
                have d1 : (e.heads != z.heads) = false := by unfold bne; rw [h3]; rfl
                have d2 : (e.per != z.per) = true := by unfold bne; rw [h4]; rfl
                go_wp2_with (fail)
                refine wp_region_wb (by kernel_rfl) (by kernel_rfl) ?_; (repeat (go_big_quiet_step (first | (go_at_call 62; exact Wb.calls (HD.out _))))); refine wpQuiet_nil ?_; rintro w1 ⟨⟨w1', hb1⟩, rfl⟩
                go_wp2
                go_ret
                exact ⟨ret_bool HN.symm, cpB.trans (hb1.mono (by simp; omega))⟩
              · cases h5 : (e.size == z.size)
                · have HN := du_no (z := z) HE.out HK (by unfold sameG; rw [h1, h2, h3, h4, h5]; rfl)
                  have d0 : (e.cyl != z.cyl) = false := by unfold bne; rw [h2]; rfl
                  have d1 : (e.heads != z.heads) = false := by unfold bne; rw [h3]; rfl
                  have d2 : (e.per != z.per) = false := by unfold bne; rw [h4]; rfl
                  have d3 : (e.size != z.size) = true := by unfold bne; rw [h5]; rfl
                  go_wp2_with (fail)
                  refine wp_region_wb (by kernel_rfl) (by kernel_rfl) ?_; (repeat (go_big_quiet_step (first | (go_at_call 62; exact Wb.calls (HD.out _))))); refine wpQuiet_nil ?_; rintro w1 ⟨⟨w1', hb1⟩, rfl⟩
                  go_wp2
                  go_ret
                  exact ⟨ret_bool HN.symm, cpB.trans (hb1.mono (by simp; omega))⟩
                · have HN := du_yes (z := z) HE.out HK (by unfold sameG; rw [h1, h2, h3, h4, h5]; rfl)
                  have d0 : (e.cyl != z.cyl) = false := by unfold bne; rw [h2]; rfl
                  have d1 : (e.heads != z.heads) = false := by unfold bne; rw [h3]; rfl
                  have d2 : (e.per != z.per) = false := by unfold bne; rw [h4]; rfl
                  have d3 : (e.size != z.size) = false := by unfold bne; rw [h5]; rfl
                  go_wp2_with (fail)
                  refine wp_region_wb (by kernel_rfl) (by kernel_rfl) ?_; (repeat (go_big_quiet_step (first | (go_at_call 62; exact Wb.calls (HD.out _))))); refine wpQuiet_nil ?_; rintro w1 ⟨⟨w1', hb1⟩, rfl⟩
                  go_wp2
                  go_roundw
                  case rel => exact ⟨k + 1, by omega, by go_num, cpB.trans (hb1.mono (by simp; omega)), HN⟩
                  case measure => simp [intOf]; omega
      · go_wp2
        go_ret
        exact ⟨ret_bool (du_end (by omega) HK).symm, hb⟩
  · have b0 : inB l.length 1 5 = false := inB_f (by omega)
    have HF : Hid (dumpsOk l = false) := Lib.hid (by
      by_cases h : 5 < l.length
      · exact du_long h
      · obtain rfl : l = [] := List.eq_nil_of_length_eq_zero (by omega)
        rfl)
    clear hA
    go_enter Try.func64, Try.ntmps64
    go_wp2_with (first | (go_at_call 105; refine (in_s _ _ _ _).mono ?_; rintro e w1 ⟨rfl, rfl⟩))
    go_ret
    exact ⟨ret_bool HF.out.symm, Below.refl _ _⟩
theorem dumps_s (B : Nat) (l : List Dsc) (v : Value) (w : World) (h : DscOwn B w v l) (hn : l.length ≤ 1048576) (hb2 : ∀ d ∈ l, d.secs.length ≤ 1048576) (hm : ∀ d ∈ l, ∀ s ∈ d.secs, s.data.size ≤ maxLen) :
    Calls Try.prog 17 #[v] w fun e w' => e = .returned (.bool (dumpsOk l)) ∧ Below w.heap.size w w' := by
  have HL := dumpsL_s B l v w h hn hb2 hm
  clear h
  go_enter Try.func17, Try.ntmps17
  go_wp2_with (go_at_call 64; refine HL.mono ?_; rintro e w1 ⟨rfl, hb1⟩)
  go_ret
  exact ⟨rfl, hb1⟩
end Go.Proofs.Ytignjjkldmninaa
