/- CertificateText, impl: the walk. -/
import Derived.Test.YtkpjjohanbiagaaDoorCerP
import Derived.Test.YtkpjjohanbiagaaDoorShl
import Derived.Lib.AppendIntMem
import Derived.Deep.RegionHeld3
import Derived.Deep.Cut
import Derived.Deep.WholeRow
namespace Go.Proofs.YtkpjjohanbiagaaDoor
set_option linter.unusedVariables false
set_option linter.unusedSimpArgs false
open Go.RowKit
theorem decp_i (x : Int) (w : World) (h : 0 ≤ x ∧ x ≤ 65535) (tab : Pow w) : Calls Tryd.prog 64 #[.int .i64 x] w fun e w' => e = .returned (.string (strB (Lib.itoa x))) ∧ Below w.heap.size w w' := by
  have HF := Lib.hid (Tryd.strconv_FormatInt_10 x (by omega) (by omega) w tab)
  go_enter Tryd.func64, Tryd.ntmps64
  go_wp2_with (go_at_call 79; refine HF.out.mono ?_; rintro e w1 ⟨rfl, k, os, rfl⟩)
  go_ret
  exact ⟨rfl, Lib.below_grow _ _ (Nat.le_refl _) _ _⟩
abbrev IsB (b : Nat) (a : List UInt8) (w : World) : Prop := Lib.IsBuilderF 86 5 b b (Lib.byteCells a) w
theorem ws_k (b : Nat) (a : List UInt8) (s : ByteArray) (w : World) (h : IsB b a w) (hs : a.length + s.size ≤ 1000000) (hb : b ≤ w.heap.size) :
    Calls Tryd.prog 50 #[.pointer (some ⟨b, 0, none⟩), .string s] w fun e w' => e = .returned (.tuple #[.int .i64 s.size, .nilIface]) ∧ IsB b (a ++ s.data.toList) w' ∧ Below b w w' ∧ Lib.OthersKept 5 (some b) w w' :=
  (Tryd.Builder_WriteString_k b b (Lib.byteCells a) s w h (by rw [Lib.byteCells_length]; omega) hb).mono fun e w' ⟨h1, h2, h3, h4⟩ => ⟨h1, .inr (by
    rw [Lib.strCells_eq, ← Lib.byteCells_append] at h2
    exact h2), h3, h4⟩
def headI (m : Nat) (x : Int) : List UInt8 := wordL m ++ (32 :: Lib.itoa x)
theorem head_data (m : Nat) (x : Int) : (strB (wordL m) ++ ⟨#[32]⟩ ++ strB (Lib.itoa x)).data.toList = headI m x := by
  unfold headI
  simp [strB]
theorem tail_data (y : Int) : ((⟨#[32]⟩ : ByteArray) ++ strB (Lib.itoa y)).data.toList = 32 :: Lib.itoa y := by
  simp [strB]
set_option maxRecDepth 20000 in
set_option maxHeartbeats 8000000 in
theorem ctext_i (B : Nat) (l : List Src) (v : Value) (w : World) (h : OwnL Src.cells 3 54 B w v l) (hn : l.length ≤ 1048576) (tab : Pow w) (wd : Wrd w) :
    Calls Tryd.prog 34 #[.agg #[v]] w fun e w' => e = .returned (.string (cerS l)) ∧ Below w.heap.size w w' := by
  have hgv := World.block_lt_of_cell? w _ (wd.cell (k := 0) (by decide))
  obtain ⟨A, c, rfl, hA⟩ := h.shape
  have HB : Below w.heap.size w (w.alloc (.cells #[.slice A l.length c] 24)) := Below.alloc (Below.refl _ _) (Nat.le_refl _) _
  have z0 : (w.alloc (.cells #[.slice A l.length c] 24)).heap.size = w.heap.size + 1 := by simp
  have hbx : (w.alloc (.cells #[.slice A l.length c] 24)).cell? ⟨w.heap.size, 0, none⟩ = some (.slice A l.length c) := by simp
  have HV := Lib.hid (cert_i B l _ _ (OwnL.below h HB) hn)
  cases hok : certOk l
  · rw [hok] at HV
    have HF := Lib.hid (cerS_no hok)
    clear h
    go_enter Tryd.func34, Tryd.ntmps34
    go_wp2_with (fail)
    refine HV.out.mono ?_; rintro e w1 ⟨rfl, hb1⟩
    go_wp2
    go_ret
    exact ⟨ret_str HF.out.symm, HB.trans (hb1.mono (by omega))⟩
  · rw [hok] at HV
    have HF := Lib.hid (cerS_yes hok)
    have hl30 := cer_len hok
    have HE := Lib.hid (fun e he => cer_ent (l := l) hok (e := e) he)
    have TB := Lib.hid (fun (w' : World) (hb : Below w.heap.size w w') => tab.below hb)
    have WB := Lib.hid (fun (w' : World) (hb : Below w.heap.size w w') => wd.below hb)
    have HC : Hid (∀ (g k : Nat) (s : Src) (j : Nat) (u : Value), A = some ⟨g, 0, none⟩ → l[k]? = some s → s.cells[j]? = some u → w.cell? ⟨g, k * 3 + j, none⟩ = some u) := Lib.hid (fun g k s j u h0 h1 h2 => by subst h0; exact OwnL.cell Src.len h h1 h2)
    clear h hok tab wd
    go_enter Tryd.func34, Tryd.ntmps34
    go_wp2_with (fail)
    refine HV.out.mono ?_; rintro e w1 ⟨rfl, hb1⟩
    have z1 : w.heap.size + 1 ≤ w1.heap.size := by have := hb1.size; omega
    have B1 : Below w.heap.size w w1 := HB.trans (hb1.mono (by omega))
    have p1 := (hb1.cell (p := ⟨w.heap.size, 0, none⟩) (by show w.heap.size < _; omega)).trans hbx
    clear HV hb1 hbx z0 HB
    have HI : Hid (IsB w1.heap.size [] (w1.alloc (.cells #[.pointer none, .slice none 0 0] 86))) := Lib.hid (Lib.IsBuilderF.of (Lib.fresh_isBuilder _ _ w1))
    have hz2 : w1.heap.size < (w1.alloc (.cells #[.pointer none, .slice none 0 0] 86)).heap.size := by simp
    have hB2 : Below w1.heap.size w1 (w1.alloc (.cells #[.pointer none, .slice none 0 0] 86)) := Below.alloc (Below.refl _ _) (Nat.le_refl _) _
    have p2 := (World.cell?_alloc_old w1 (.cells #[.pointer none, .slice none 0 0] 86) ⟨w.heap.size, 0, none⟩ (by show w.heap.size ≠ _; omega)).trans p1
    go_upto_region 5 with fail
    generalize (w1.alloc (.cells #[.pointer none, .slice none 0 0] 86)) = w2 at *
    clear p1 p2
    go_loopw [12] (fun i wr => ∃ (k : Nat) (acc : List UInt8), k ≤ l.length ∧ i = .int .i64 k ∧ acc.length ≤ 60 * k ∧ Below w1.heap.size w1 wr ∧ w1.heap.size < wr.heap.size ∧ Hid (IsB w1.heap.size acc wr) ∧ Hid (cerT l = acc ++ cerT (l.drop k))) (fun i _ => l.length - (intOf i).toNat)
    case atStart => exact ⟨0, [], by omega, rfl, by simp, hB2, hz2, HI, Lib.hid rfl⟩
    case round =>
      clear HI hz2 hB2
      obtain ⟨k, acc, hk, rfl, hac, hb, hzw, HI, HK⟩ := hrel
      have zr := hb.size
      have BR : Below w.heap.size w wr := B1.trans (hb.mono (by omega))
      by_cases hlt : k < l.length
      · obtain ⟨e, he⟩ : ∃ e, l[k]? = some e := ⟨l[k], List.getElem?_eq_getElem hlt⟩
        obtain ⟨g, rfl, _, hg⟩ := hA.resolve_left (by intro h0; rw [h0] at hlt; simp at hlt)
        have p0 := (BR.cell (p := ⟨g, k * 3, none⟩) hg).trans (HC.out g k e 0 _ rfl he rfl)
        have p1 := (BR.cell (p := ⟨g, k * 3 + 1, none⟩) hg).trans (HC.out g k e 1 _ rfl he rfl)
        have p2 := (BR.cell (p := ⟨g, k * 3 + 2, none⟩) hg).trans (HC.out g k e 2 _ rfl he rfl)
        obtain ⟨b0, b1, b2⟩ := HE.out e (List.mem_of_getElem? he)
        have HN := cerT_next he HK
        have hl := srcT_le b1 b2
        obtain ⟨kd, x, y⟩ := e
        dsimp only at p0 p1 p2 b0 b1 b2
        obtain ⟨m, rfl⟩ := Int.eq_ofNat_of_zero_le (show 0 ≤ kd by omega)
        have hm5 : m < 5 := by omega
        have hm5i : (m : Int) < 5 := by omega
        clear he
        have hsa : ∀ x y : ByteArray, (x ++ y).size = x.size + y.size := fun _ _ => ByteArray.size_append
        have hs1 : (strB (Lib.itoa x)).size ≤ 21 := by rw [strB_size]; exact ito_le (by omega)
        have hs2 : (strB (Lib.itoa y)).size ≤ 21 := by rw [strB_size]; exact ito_le (by omega)
        have hs3 : (strB (wordL m)).size ≤ 6 := by rw [strB_size]; exact word_le m
        have hx1 : ¬ (9223372036854775807 < (strB (wordL m)).size + 1) := by omega
        have hx2 : ¬ (9223372036854775807 < (strB (wordL m)).size + 1 + (strB (Lib.itoa x)).size) := by omega
        have hx4 : ¬ (9223372036854775807 < 1 + (strB (Lib.itoa y)).size) := by omega
        have hbb : Below wr.heap.size wr (wr.alloc (.cells #[.int .i64 (m : Int), .int .i64 x, .int .i64 y] 54)) := Below.alloc (Below.refl _ _) (Nat.le_refl _) _
        have zb : ((wr.alloc (.cells #[.int .i64 (m : Int), .int .i64 x, .int .i64 y] 54))).heap.size = wr.heap.size + 1 := by simp
        have hh0 : ((wr.alloc (.cells #[.int .i64 (m : Int), .int .i64 x, .int .i64 y] 54)).drew).heap[wr.heap.size]? = some (.cells #[.int .i64 (m : Int), .int .i64 x, .int .i64 y] 54 (0, 0)) := heap_alloc_last _ _
        have W0 := (WB.out _ (BR.trans ((Below.drew hbb).mono BR.size))).cell hm5
        have S4 : Hid (∀ w' : World, w'.heap[wr.heap.size]? = some (.cells #[.int .i64 (m : Int), .int .i64 x, .int .i64 y] 54 (0, 0)) → w'.cell? ⟨wr.heap.size, 0, none⟩ = some (.int .i64 (m : Int)) ∧ w'.cell? ⟨wr.heap.size, 1, none⟩ = some (.int .i64 x) ∧ w'.cell? ⟨wr.heap.size, 2, none⟩ = some (.int .i64 y)) := Lib.hid (fun w' h => ⟨Lib.cell_of_heap h 0, Lib.cell_of_heap h 1, Lib.cell_of_heap h 2⟩)
        have SS : Hid (∀ w' : World, w'.heap[wr.heap.size]? = some (.cells #[.int .i64 (m : Int), .int .i64 x, .int .i64 y] 54 (0, 0)) → w'.cell? ⟨0, m, none⟩ = some (.string (strB (wordL m))) → (w'.cell? ⟨wr.heap.size, 0, none⟩ = some (.int .i64 (m : Int)) ∧ w'.cell? ⟨wr.heap.size, 1, none⟩ = some (.int .i64 x) ∧ w'.cell? ⟨0, m, none⟩ = some (.string (strB (wordL m))))) := Lib.hid (fun w' h h2 => ⟨(S4.out w' h).1, (S4.out w' h).2.1, h2⟩)
        have HD := Lib.hid (decp_i x ((wr.alloc (.cells #[.int .i64 (m : Int), .int .i64 x, .int .i64 y] 54)).drew) (by omega) (TB.out _ (BR.trans ((Below.drew hbb).mono BR.size))))
        have BX : Hid (∀ w3, Below ((wr.alloc (.cells #[.int .i64 (m : Int), .int .i64 x, .int .i64 y] 54)).drew).heap.size (wr.alloc (.cells #[.int .i64 (m : Int), .int .i64 x, .int .i64 y] 54)).drew w3 → Below wr.heap.size wr w3 ∧ w3.heap[wr.heap.size]? = some (.cells #[.int .i64 (m : Int), .int .i64 x, .int .i64 y] 54 (0, 0)) ∧ w3.cell? ⟨0, m, none⟩ = some (.string (strB (wordL m)))) := Lib.hid (fun w3 h3 => ⟨(Below.drew hbb).trans (h3.mono (by show _ ≤ ((wr.alloc (.cells #[.int .i64 (m : Int), .int .i64 x, .int .i64 y] 54))).heap.size; omega)), (h3.block wr.heap.size (by show _ < ((wr.alloc (.cells #[.int .i64 (m : Int), .int .i64 x, .int .i64 y] 54))).heap.size; omega)).trans hh0, (h3.cell (p := ⟨0, m, none⟩) (by show 0 < ((wr.alloc (.cells #[.int .i64 (m : Int), .int .i64 x, .int .i64 y] 54))).heap.size; have := BR.size; omega)).trans W0⟩)
        have hts : acc.length + (strB (wordL m) ++ ⟨#[32]⟩ ++ strB (Lib.itoa x)).size ≤ 1000000 := by rw [hsa, hsa]; show acc.length + (_ + 1 + _) ≤ _; omega
        have HW := Lib.hid (fun (w3 : World) (h3 : Below wr.heap.size wr w3) => ws_k w1.heap.size acc _ w3 (IsBuilderF.keep HI.out h3) hts (by have := h3.size; omega))
        have hne1 : wr.heap.size ≠ w1.heap.size := by omega
        have hgw : 0 < w1.heap.size := by omega
        go_wp2_with (fail)
        go_region_held3 (fun w' => w'.cell? ⟨wr.heap.size, 0, none⟩ = some (.int .i64 (m : Int)) ∧ w'.cell? ⟨wr.heap.size, 1, none⟩ = some (.int .i64 x) ∧ w'.cell? ⟨0, m, none⟩ = some (.string (strB (wordL m))))
          (first | exact SS.out _ hh0 W0 | exact SS.out _ hh3 hw3 | exact SS.out _ hh4 hw4)
          (first | (go_at_call 64; refine HD.out.mono ?_; rintro r w3 ⟨rfl, hb3⟩; obtain ⟨hB3, hh3, hw3⟩ := BX.out w3 hb3; have HW3 := Lib.hid (HW.out w3 hB3)) | (go_at_call 50; refine HW3.out.mono ?_; rintro r w4 ⟨rfl, hI4, hb4, hO4⟩; have HI4 := Lib.hid hI4; have HB4 := Lib.hid hb4; have hh4 := others_cell hO4 hh3 hne1 (by decide); have hw4 := (hb4.cell (p := ⟨0, m, none⟩) hgw).trans hw3; clear hI4 hb4 hO4))
        have HB3 := Lib.hid hB3
        have HH4 := Lib.hid hh4
        have hBw4 : Below w1.heap.size w1 w4 := (hb.trans (hB3.mono zr)).trans HB4.out
        have B4 : Below w.heap.size w w4 := B1.trans (hBw4.mono (by omega))
        have hz4 : w1.heap.size < w4.heap.size := by have h1 := hB3.size; have h2 := HB4.out.size; omega
        obtain ⟨r0, r1, r2⟩ := S4.out w4 hh4
        have HI4' := Lib.hid HI4.out
        rw [head_data] at HI4'
        clear hh0 hh3 hh4 hw3 hw4 W0 S4 SS HD BX HW HW3 HB4 hB3 hb3 HB3 HI4 hx1 hx2 hts
        by_cases h1 : m = 1
        · have d1 : ((m : Int) == 1) = true := by rw [h1]; rfl
          have HF1 : Hid (((acc ++ headI m x) ++ (32 :: Lib.itoa y)) ++ [10] = acc ++ srcT ⟨m, x, y⟩) := Lib.hid (by rw [src_one (e := ⟨m, x, y⟩) (by rw [h1]; rfl)]; unfold headI; rw [h1]; simp)
          have H1 := Lib.hid h1
          clear h1
          have HD4 := Lib.hid (decp_i y w4 (by omega) (TB.out w4 B4))
          have hhl : (headI m x).length ≤ 30 := by
            unfold headI
            have h5 := word_le m
            have h6 := ito_le (n := x) (by omega)
            simp only [List.length_append, List.length_cons]; omega
          have htl : (32 :: Lib.itoa y).length ≤ 30 := by
            have h6 := ito_le (n := y) (by omega)
            simp only [List.length_cons]; omega
          go_wp2_with (go_at_call 64; refine HD4.out.mono ?_; rintro r w5 ⟨rfl, hb5⟩)
          have hI5 := IsBuilderF.keep HI4'.out hb5
          have hz5 : w1.heap.size < w5.heap.size := Nat.lt_of_lt_of_le hz4 hb5.size
          have HW5 := Lib.hid (ws_k w1.heap.size (acc ++ headI m x) ((⟨#[32]⟩ : ByteArray) ++ strB (Lib.itoa y)) w5 hI5 (by rw [hsa, List.length_append]; show _ + (1 + _) ≤ _; omega) (by omega))
          have hB5 : Below w1.heap.size w1 w5 := hBw4.trans (hb5.mono (by omega))
          clear hI5 hb5 HD4 HI4'
          rw [tail_data] at HW5
          go_wp2_with (go_at_call 50; with_reducible refine Calls.mono HW5.out ?_; rintro r w6 ⟨rfl, hI6, hb6, _⟩)
          have HI6 := Lib.hid hI6
          have hz6 : w1.heap.size < w6.heap.size := Nat.lt_of_lt_of_le hz5 hb6.size
          have hB6 : Below w1.heap.size w1 w6 := hB5.trans hb6
          clear hI6 hb6 HW5
          have HW6 := Lib.hid (ws_k w1.heap.size ((acc ++ headI m x) ++ (32 :: Lib.itoa y)) ⟨#[10]⟩ w6 HI6.out (by rw [List.length_append, List.length_append]; show _ + 1 ≤ _; omega) (by omega))
          clear HI6
          go_wp2_with (go_at_call 50; with_reducible refine Calls.mono HW6.out ?_; rintro r w7 ⟨rfl, hI7, hb7, _⟩)
          have HI7 : Hid (IsB w1.heap.size (acc ++ srcT ⟨m, x, y⟩) w7) := Lib.hid (by rw [← HF1.out]; exact hI7)
          have hz7 : w1.heap.size < w7.heap.size := Nat.lt_of_lt_of_le hz6 hb7.size
          have hB7 : Below w1.heap.size w1 w7 := hB6.trans hb7
          clear hI7 hb7 HW6
          go_roundw
          case rel => exact ⟨k + 1, acc ++ srcT ⟨m, x, y⟩, by omega, by go_num, by rw [List.length_append]; omega, hB7, hz7, HI7, HN⟩
          case measure => simp [intOf]; omega
        · have d1 : ((m : Int) == 1) = false := by rw [beq_eq_false_iff_ne]; omega
          have HF1 : Hid ((acc ++ headI m x) ++ [10] = acc ++ srcT ⟨m, x, y⟩) := Lib.hid (by rw [src_more (e := ⟨m, x, y⟩) (show ¬ (m : Int) = 1 by omega)]; unfold headI; simp)
          have H1 := Lib.hid h1
          clear h1
          have hhl : (headI m x).length ≤ 30 := by
            unfold headI
            have h5 := word_le m
            have h6 := ito_le (n := x) (by omega)
            simp only [List.length_append, List.length_cons]; omega
          have HW6 := Lib.hid (ws_k w1.heap.size (acc ++ headI m x) ⟨#[10]⟩ w4 HI4'.out (by rw [List.length_append]; show _ + 1 ≤ _; omega) (by omega))
          clear HI4'
          go_wp2_with (go_at_call 50; with_reducible refine Calls.mono HW6.out ?_; rintro r w7 ⟨rfl, hI7, hb7, _⟩)
          have HI7 : Hid (IsB w1.heap.size (acc ++ srcT ⟨m, x, y⟩) w7) := Lib.hid (by rw [← HF1.out]; exact hI7)
          have hz7 : w1.heap.size < w7.heap.size := Nat.lt_of_lt_of_le hz4 hb7.size
          have hB7 : Below w1.heap.size w1 w7 := hBw4.trans hb7
          clear hI7 hb7 HW6
          go_roundw
          case rel => exact ⟨k + 1, acc ++ srcT ⟨m, x, y⟩, by omega, by go_num, by rw [List.length_append]; omega, hB7, hz7, HI7, HN⟩
          case measure => simp [intOf]; omega
      · have hT := cerT_end (by omega) HK
        have HS := Lib.hid (Tryd.Builder_String_any_k w1.heap.size w1.heap.size acc wr HI.out zr)
        go_wp2_with (go_at_call 52; refine HS.out.mono ?_; rintro r w4 ⟨rfl, _, hb4, _⟩)
        go_ret
        exact ⟨ret_str (by rw [HF.out, hT]; rfl), BR.trans (hb4.mono (by omega))⟩
end Go.Proofs.YtkpjjohanbiagaaDoor
