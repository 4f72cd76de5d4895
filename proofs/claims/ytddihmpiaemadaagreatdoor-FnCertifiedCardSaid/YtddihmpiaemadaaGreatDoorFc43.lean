/- CertificateText, impl: the walk. Texts split at a byte, lines, and numbers in words: plain laws. ValidVerb, impl and spec: the walks. Entries of a ledger as lists; chainOf, impl and spec. FirstBroken and ValidLedger, impl and spec: the walks. -/
import Derived.Test.YtddihmpiaemadaaGreatDoorFc41
import Derived.Test.YtddihmpiaemadaaGreatDoorFc42
import Derived.Test.YtddihmpiaemadaaGreatDoorFc02
import Derived.Test.YtddihmpiaemadaaGreatDoorFc06
import Derived.Lib.AppendIntMem
import Derived.Deep.RegionHeld3
import Derived.Deep.Cut
import Derived.Deep.WholeRow
import Derived.Lib.SplitLaws
import Derived.Lib.ParseIntB
import Derived.Lib.AtoiAllCases
namespace Go.Proofs.YtddihmpiaemadaaGreatDoor
set_option linter.unusedVariables false
set_option linter.unusedSimpArgs false
open Go.RowKit
theorem decp_i (x : Int) (w : World) (h : 0 ≤ x ∧ x ≤ 65535) (tab : Pow w) : Calls Tryz.prog 33 #[.int .i64 x] w fun e w' => e = .returned (.string (strB (Lib.itoa x))) ∧ Below w.heap.size w w' := by
  have HF := Lib.hid (Tryz.strconv_FormatInt_10 x (by omega) (by omega) w tab)
  go_enter Tryz.func33, Tryz.ntmps33
  go_wp2_with (go_at_call 72; refine HF.out.mono ?_; rintro e w1 ⟨rfl, k, os, rfl⟩)
  go_ret
  exact ⟨rfl, Lib.below_grow _ _ (Nat.le_refl _) _ _⟩
abbrev IsB (b : Nat) (a : List UInt8) (w : World) : Prop := Lib.IsBuilderF 77 5 b b (Lib.byteCells a) w
theorem ws_k (b : Nat) (a : List UInt8) (s : ByteArray) (w : World) (h : IsB b a w) (hs : a.length + s.size ≤ 1000000) (hb : b ≤ w.heap.size) :
    Calls Tryz.prog 32 #[.pointer (some ⟨b, 0, none⟩), .string s] w fun e w' => e = .returned (.tuple #[.int .i64 s.size, .nilIface]) ∧ IsB b (a ++ s.data.toList) w' ∧ Below b w w' ∧ Lib.OthersKept 5 (some b) w w' :=
  (Tryz.Builder_WriteString_k b b (Lib.byteCells a) s w h (by rw [Lib.byteCells_length]; omega) hb).mono fun e w' ⟨h1, h2, h3, h4⟩ => ⟨h1, .inr (by
    rw [Lib.strCells_eq, ← Lib.byteCells_append] at h2
    exact h2), h3, h4⟩
def headI (m : Nat) (x : Int) : List UInt8 := wordL m ++ (32 :: Lib.itoa x)
theorem head_data (m : Nat) (x : Int) : (strB (wordL m) ++ ⟨#[32]⟩ ++ strB (Lib.itoa x)).data.toList = headI m x := by
  unfold headI
  simp [strB]
theorem tail_data (y : Int) : ((⟨#[32]⟩ : ByteArray) ++ strB (Lib.itoa y)).data.toList = 32 :: Lib.itoa y := by
  simp [strB]
set_option maxRecDepth 20000 in
set_option maxHeartbeats 8000000 in
theorem ctext_i (B : Nat) (l : List Src) (v : Value) (w : World) (h : OwnL Src.cells 3 49 B w v l) (hn : l.length ≤ 1048576) (tab : Pow w) (wd : Wrd w) :
    Calls Tryz.prog 14 #[.agg #[v]] w fun e w' => e = .returned (.string (cerS l)) ∧ Below w.heap.size w w' := by
  have hgv := World.block_lt_of_cell? w _ (wd.cell (k := 0) (by decide))
  obtain ⟨A, c, rfl, hA⟩ := h.shape
  have HB : Below w.heap.size w (w.alloc (.cells #[.slice A l.length c] 35)) := Below.alloc (Below.refl _ _) (Nat.le_refl _) _
  have z0 : (w.alloc (.cells #[.slice A l.length c] 35)).heap.size = w.heap.size + 1 := by simp
  have hbx : (w.alloc (.cells #[.slice A l.length c] 35)).cell? ⟨w.heap.size, 0, none⟩ = some (.slice A l.length c) := by simp
  have HV := Lib.hid (cert_i B l _ _ (OwnL.below h HB) hn)
  cases hok : certOk l
  · rw [hok] at HV
    have HF := Lib.hid (cerS_no hok)
    clear h
    go_enter Tryz.func14, Tryz.ntmps14
    go_wp2_with (fail)
    refine HV.out.mono ?_; rintro e w1 ⟨rfl, hb1⟩
    go_wp2
    go_ret
    exact ⟨ret_str HF.out.symm, HB.trans (hb1.mono (by omega))⟩
  · rw [hok] at HV
    have HF := Lib.hid (cerS_yes hok)
    have hl30 := cer_len hok
    have HE := Lib.hid (fun e he => cer_ent (l := l) hok (e := e) he)
    have TB := Lib.hid (fun (w' : World) (hb : Below w.heap.size w w') => tab.below hb)
    have WB := Lib.hid (fun (w' : World) (hb : Below w.heap.size w w') => wd.below hb)
    have HC : Hid (∀ (g k : Nat) (s : Src) (j : Nat) (u : Value), A = some ⟨g, 0, none⟩ → l[k]? = some s → s.cells[j]? = some u → w.cell? ⟨g, k * 3 + j, none⟩ = some u) := Lib.hid (fun g k s j u h0 h1 h2 => by subst h0; exact OwnL.cell Src.len h h1 h2)
    clear h hok tab wd
    go_enter Tryz.func14, Tryz.ntmps14
    go_wp2_with (fail)
    refine HV.out.mono ?_; rintro e w1 ⟨rfl, hb1⟩
    have z1 : w.heap.size + 1 ≤ w1.heap.size := by have := hb1.size; omega
    have B1 : Below w.heap.size w w1 := HB.trans (hb1.mono (by omega))
    have p1 := (hb1.cell (p := ⟨w.heap.size, 0, none⟩) (by show w.heap.size < _; omega)).trans hbx
    clear HV hb1 hbx z0 HB
    have HI : Hid (IsB w1.heap.size [] (w1.alloc (.cells #[.pointer none, .slice none 0 0] 77))) := Lib.hid (Lib.IsBuilderF.of (Lib.fresh_isBuilder _ _ w1))
    have hz2 : w1.heap.size < (w1.alloc (.cells #[.pointer none, .slice none 0 0] 77)).heap.size := by simp
    have hB2 : Below w1.heap.size w1 (w1.alloc (.cells #[.pointer none, .slice none 0 0] 77)) := Below.alloc (Below.refl _ _) (Nat.le_refl _) _
    have p2 := (World.cell?_alloc_old w1 (.cells #[.pointer none, .slice none 0 0] 77) ⟨w.heap.size, 0, none⟩ (by show w.heap.size ≠ _; omega)).trans p1
    go_upto_region 5 with fail
    generalize (w1.alloc (.cells #[.pointer none, .slice none 0 0] 77)) = w2 at *
    clear p1 p2
    go_loopw [12] (fun i wr => ∃ (k : Nat) (acc : List UInt8), k ≤ l.length ∧ i = .int .i64 k ∧ acc.length ≤ 60 * k ∧ Below w1.heap.size w1 wr ∧ w1.heap.size < wr.heap.size ∧ Hid (IsB w1.heap.size acc wr) ∧ Hid (cerT l = acc ++ cerT (l.drop k))) (fun i _ => l.length - (intOf i).toNat)
    case atStart => exact ⟨0, [], by omega, rfl, by simp, hB2, hz2, HI, Lib.hid rfl⟩
    case round =>
      clear HI hz2 hB2
      obtain ⟨k, acc, hk, rfl, hac, hb, hzw, HI, HK⟩ := hrel
      have zr := hb.size
      have BR : Below w.heap.size w wr := B1.trans (hb.mono (by omega))
      by_cases hlt : k < l.length
      · obtain ⟨e, he⟩ : ∃ e, l[k]? = some e := ⟨l[k], List.getElem?_eq_getElem hlt⟩
        obtain ⟨g, rfl, _, hg⟩ := hA.resolve_left (by intro h0; rw [h0] at hlt; simp at hlt)
        have p0 := (BR.cell (p := ⟨g, k * 3, none⟩) hg).trans (HC.out g k e 0 _ rfl he rfl)
        have p1 := (BR.cell (p := ⟨g, k * 3 + 1, none⟩) hg).trans (HC.out g k e 1 _ rfl he rfl)
        have p2 := (BR.cell (p := ⟨g, k * 3 + 2, none⟩) hg).trans (HC.out g k e 2 _ rfl he rfl)
        obtain ⟨b0, b1, b2⟩ := HE.out e (List.mem_of_getElem? he)
        have HN := cerT_next he HK
        have hl := srcT_le b1 b2
        obtain ⟨kd, x, y⟩ := e
        dsimp only at p0 p1 p2 b0 b1 b2
        obtain ⟨m, rfl⟩ := Int.eq_ofNat_of_zero_le (show 0 ≤ kd by omega)
        have hm5 : m < 5 := by omega
        have hm5i : (m : Int) < 5 := by omega
        clear he
        have hsa : ∀ x y : ByteArray, (x ++ y).size = x.size + y.size := fun _ _ => ByteArray.size_append
        have hs1 : (strB (Lib.itoa x)).size ≤ 21 := by rw [strB_size]; exact ito_le (by omega)
        have hs2 : (strB (Lib.itoa y)).size ≤ 21 := by rw [strB_size]; exact ito_le (by omega)
        have hs3 : (strB (wordL m)).size ≤ 6 := by rw [strB_size]; exact word_le m
        have hx1 : ¬ (9223372036854775807 < (strB (wordL m)).size + 1) := by omega
        have hx2 : ¬ (9223372036854775807 < (strB (wordL m)).size + 1 + (strB (Lib.itoa x)).size) := by omega
        have hx4 : ¬ (9223372036854775807 < 1 + (strB (Lib.itoa y)).size) := by omega
        have hbb : Below wr.heap.size wr (wr.alloc (.cells #[.int .i64 (m : Int), .int .i64 x, .int .i64 y] 49)) := Below.alloc (Below.refl _ _) (Nat.le_refl _) _
        have zb : ((wr.alloc (.cells #[.int .i64 (m : Int), .int .i64 x, .int .i64 y] 49))).heap.size = wr.heap.size + 1 := by simp
        have hh0 : ((wr.alloc (.cells #[.int .i64 (m : Int), .int .i64 x, .int .i64 y] 49)).drew).heap[wr.heap.size]? = some (.cells #[.int .i64 (m : Int), .int .i64 x, .int .i64 y] 49 (0, 0)) := heap_alloc_last _ _
        have W0 := (WB.out _ (BR.trans ((Below.drew hbb).mono BR.size))).cell hm5
        have S4 : Hid (∀ w' : World, w'.heap[wr.heap.size]? = some (.cells #[.int .i64 (m : Int), .int .i64 x, .int .i64 y] 49 (0, 0)) → w'.cell? ⟨wr.heap.size, 0, none⟩ = some (.int .i64 (m : Int)) ∧ w'.cell? ⟨wr.heap.size, 1, none⟩ = some (.int .i64 x) ∧ w'.cell? ⟨wr.heap.size, 2, none⟩ = some (.int .i64 y)) := Lib.hid (fun w' h => ⟨Lib.cell_of_heap h 0, Lib.cell_of_heap h 1, Lib.cell_of_heap h 2⟩)
        have SS : Hid (∀ w' : World, w'.heap[wr.heap.size]? = some (.cells #[.int .i64 (m : Int), .int .i64 x, .int .i64 y] 49 (0, 0)) → w'.cell? ⟨0, m, none⟩ = some (.string (strB (wordL m))) → (w'.cell? ⟨wr.heap.size, 0, none⟩ = some (.int .i64 (m : Int)) ∧ w'.cell? ⟨wr.heap.size, 1, none⟩ = some (.int .i64 x) ∧ w'.cell? ⟨0, m, none⟩ = some (.string (strB (wordL m))))) := Lib.hid (fun w' h h2 => ⟨(S4.out w' h).1, (S4.out w' h).2.1, h2⟩)
        have HD := Lib.hid (decp_i x ((wr.alloc (.cells #[.int .i64 (m : Int), .int .i64 x, .int .i64 y] 49)).drew) (by omega) (TB.out _ (BR.trans ((Below.drew hbb).mono BR.size))))
        have BX : Hid (∀ w3, Below ((wr.alloc (.cells #[.int .i64 (m : Int), .int .i64 x, .int .i64 y] 49)).drew).heap.size (wr.alloc (.cells #[.int .i64 (m : Int), .int .i64 x, .int .i64 y] 49)).drew w3 → Below wr.heap.size wr w3 ∧ w3.heap[wr.heap.size]? = some (.cells #[.int .i64 (m : Int), .int .i64 x, .int .i64 y] 49 (0, 0)) ∧ w3.cell? ⟨0, m, none⟩ = some (.string (strB (wordL m)))) := Lib.hid (fun w3 h3 => ⟨(Below.drew hbb).trans (h3.mono (by show _ ≤ ((wr.alloc (.cells #[.int .i64 (m : Int), .int .i64 x, .int .i64 y] 49))).heap.size; omega)), (h3.block wr.heap.size (by show _ < ((wr.alloc (.cells #[.int .i64 (m : Int), .int .i64 x, .int .i64 y] 49))).heap.size; omega)).trans hh0, (h3.cell (p := ⟨0, m, none⟩) (by show 0 < ((wr.alloc (.cells #[.int .i64 (m : Int), .int .i64 x, .int .i64 y] 49))).heap.size; have := BR.size; omega)).trans W0⟩)
        have hts : acc.length + (strB (wordL m) ++ ⟨#[32]⟩ ++ strB (Lib.itoa x)).size ≤ 1000000 := by rw [hsa, hsa]; show acc.length + (_ + 1 + _) ≤ _; omega
        have HW := Lib.hid (fun (w3 : World) (h3 : Below wr.heap.size wr w3) => ws_k w1.heap.size acc _ w3 (IsBuilderF.keep HI.out h3) hts (by have := h3.size; omega))
        have hne1 : wr.heap.size ≠ w1.heap.size := by omega
        have hgw : 0 < w1.heap.size := by omega
        go_wp2_with (fail)
        go_region_held3 (fun w' => w'.cell? ⟨wr.heap.size, 0, none⟩ = some (.int .i64 (m : Int)) ∧ w'.cell? ⟨wr.heap.size, 1, none⟩ = some (.int .i64 x) ∧ w'.cell? ⟨0, m, none⟩ = some (.string (strB (wordL m))))
          (first | exact SS.out _ hh0 W0 | exact SS.out _ hh3 hw3 | exact SS.out _ hh4 hw4)
          (first | (go_at_call 33; refine HD.out.mono ?_; rintro r w3 ⟨rfl, hb3⟩; obtain ⟨hB3, hh3, hw3⟩ := BX.out w3 hb3; have HW3 := Lib.hid (HW.out w3 hB3)) | (go_at_call 32; refine HW3.out.mono ?_; rintro r w4 ⟨rfl, hI4, hb4, hO4⟩; have HI4 := Lib.hid hI4; have HB4 := Lib.hid hb4; have hh4 := others_cell hO4 hh3 hne1 (by decide); have hw4 := (hb4.cell (p := ⟨0, m, none⟩) hgw).trans hw3; clear hI4 hb4 hO4))
        have HB3 := Lib.hid hB3
        have HH4 := Lib.hid hh4
        have hBw4 : Below w1.heap.size w1 w4 := (hb.trans (hB3.mono zr)).trans HB4.out
        have B4 : Below w.heap.size w w4 := B1.trans (hBw4.mono (by omega))
        have hz4 : w1.heap.size < w4.heap.size := by have h1 := hB3.size; have h2 := HB4.out.size; omega
        obtain ⟨r0, r1, r2⟩ := S4.out w4 hh4
        have HI4' := Lib.hid HI4.out
        rw [head_data] at HI4'
        clear hh0 hh3 hh4 hw3 hw4 W0 S4 SS HD BX HW HW3 HB4 hB3 hb3 HB3 HI4 hx1 hx2 hts
        by_cases h1 : m = 1
        · have d1 : ((m : Int) == 1) = true := by rw [h1]; rfl
          have HF1 : Hid (((acc ++ headI m x) ++ (32 :: Lib.itoa y)) ++ [10] = acc ++ srcT ⟨m, x, y⟩) := Lib.hid (by rw [src_one (e := ⟨m, x, y⟩) (by rw [h1]; rfl)]; unfold headI; rw [h1]; simp)
          have H1 := Lib.hid h1
          clear h1
          have HD4 := Lib.hid (decp_i y w4 (by omega) (TB.out w4 B4))
          have hhl : (headI m x).length ≤ 30 := by
            unfold headI
            have h5 := word_le m
            have h6 := ito_le (n := x) (by omega)
            simp only [List.length_append, List.length_cons]; omega
          have htl : (32 :: Lib.itoa y).length ≤ 30 := by
            have h6 := ito_le (n := y) (by omega)
            simp only [List.length_cons]; omega
          go_wp2_with (go_at_call 33; refine HD4.out.mono ?_; rintro r w5 ⟨rfl, hb5⟩)
          have hI5 := IsBuilderF.keep HI4'.out hb5
          have hz5 : w1.heap.size < w5.heap.size := Nat.lt_of_lt_of_le hz4 hb5.size
          have HW5 := Lib.hid (ws_k w1.heap.size (acc ++ headI m x) ((⟨#[32]⟩ : ByteArray) ++ strB (Lib.itoa y)) w5 hI5 (by rw [hsa, List.length_append]; show _ + (1 + _) ≤ _; omega) (by omega))
          have hB5 : Below w1.heap.size w1 w5 := hBw4.trans (hb5.mono (by omega))
          clear hI5 hb5 HD4 HI4'
          rw [tail_data] at HW5
          go_wp2_with (go_at_call 32; with_reducible refine Calls.mono HW5.out ?_; rintro r w6 ⟨rfl, hI6, hb6, _⟩)
          have HI6 := Lib.hid hI6
          have hz6 : w1.heap.size < w6.heap.size := Nat.lt_of_lt_of_le hz5 hb6.size
          have hB6 : Below w1.heap.size w1 w6 := hB5.trans hb6
          clear hI6 hb6 HW5
          have HW6 := Lib.hid (ws_k w1.heap.size ((acc ++ headI m x) ++ (32 :: Lib.itoa y)) ⟨#[10]⟩ w6 HI6.out (by rw [List.length_append, List.length_append]; show _ + 1 ≤ _; omega) (by omega))
          clear HI6
          go_wp2_with (go_at_call 32; with_reducible refine Calls.mono HW6.out ?_; rintro r w7 ⟨rfl, hI7, hb7, _⟩)
          have HI7 : Hid (IsB w1.heap.size (acc ++ srcT ⟨m, x, y⟩) w7) := Lib.hid (by rw [← HF1.out]; exact hI7)
          have hz7 : w1.heap.size < w7.heap.size := Nat.lt_of_lt_of_le hz6 hb7.size
          have hB7 : Below w1.heap.size w1 w7 := hB6.trans hb7
          clear hI7 hb7 HW6
          go_roundw
          case rel => exact ⟨k + 1, acc ++ srcT ⟨m, x, y⟩, by omega, by go_num, by rw [List.length_append]; omega, hB7, hz7, HI7, HN⟩
          case measure => simp [intOf]; omega
        · have d1 : ((m : Int) == 1) = false := by rw [beq_eq_false_iff_ne]; omega
          have HF1 : Hid ((acc ++ headI m x) ++ [10] = acc ++ srcT ⟨m, x, y⟩) := Lib.hid (by rw [src_more (e := ⟨m, x, y⟩) (show ¬ (m : Int) = 1 by omega)]; unfold headI; simp)
          have H1 := Lib.hid h1
          clear h1
          have hhl : (headI m x).length ≤ 30 := by
            unfold headI
            have h5 := word_le m
            have h6 := ito_le (n := x) (by omega)
            simp only [List.length_append, List.length_cons]; omega
          have HW6 := Lib.hid (ws_k w1.heap.size (acc ++ headI m x) ⟨#[10]⟩ w4 HI4'.out (by rw [List.length_append]; show _ + 1 ≤ _; omega) (by omega))
          clear HI4'
          go_wp2_with (go_at_call 32; with_reducible refine Calls.mono HW6.out ?_; rintro r w7 ⟨rfl, hI7, hb7, _⟩)
          have HI7 : Hid (IsB w1.heap.size (acc ++ srcT ⟨m, x, y⟩) w7) := Lib.hid (by rw [← HF1.out]; exact hI7)
          have hz7 : w1.heap.size < w7.heap.size := Nat.lt_of_lt_of_le hz4 hb7.size
          have hB7 : Below w1.heap.size w1 w7 := hBw4.trans hb7
          clear hI7 hb7 HW6
          go_roundw
          case rel => exact ⟨k + 1, acc ++ srcT ⟨m, x, y⟩, by omega, by go_num, by rw [List.length_append]; omega, hB7, hz7, HI7, HN⟩
          case measure => simp [intOf]; omega
      · have hT := cerT_end (by omega) HK
        have HS := Lib.hid (Tryz.Builder_String_any_k w1.heap.size w1.heap.size acc wr HI.out zr)
        go_wp2_with (go_at_call 34; refine HS.out.mono ?_; rintro r w4 ⟨rfl, _, hb4, _⟩)
        go_ret
        exact ⟨ret_str (by rw [HF.out, hT]; rfl), BR.trans (hb4.mono (by omega))⟩
end Go.Proofs.YtddihmpiaemadaaGreatDoor
namespace Go.Proofs.YtddihmpiaemadaaGreatDoor
set_option linter.unusedVariables false
set_option linter.unusedSimpArgs false
open Go.RowKit
/-- pieces between the bytes c; acc stands ahead of the first one -/
def splitF (c : UInt8) (acc : List UInt8) : List UInt8 → List (List UInt8)
  | [] => [acc]
  | b :: r => if b = c then acc :: splitF c [] r else splitF c (acc ++ [b]) r
theorem splitF_ne (c : UInt8) (l acc : List UInt8) : splitF c acc l ≠ [] := by
  induction l generalizing acc with
  | nil => simp [splitF]
  | cons b r ih =>
    unfold splitF
    split
    · simp
    · exact ih _
theorem splitF_no {c : UInt8} {p : List UInt8} (h : c ∉ p) (acc : List UInt8) : splitF c acc p = [acc ++ p] := by
  induction p generalizing acc with
  | nil => simp [splitF]
  | cons b r ih =>
    have hb : b ≠ c := fun e => h (by simp [e])
    rw [splitF, if_neg hb, ih (fun hm => h (by simp [hm]))]
    simp
theorem splitF_hit {c : UInt8} {p : List UInt8} (h : c ∉ p) (r acc : List UInt8) : splitF c acc (p ++ c :: r) = (acc ++ p) :: splitF c [] r := by
  induction p generalizing acc with
  | nil => simp [splitF]
  | cons b q ih =>
    have hb : b ≠ c := fun e => h (by simp [e])
    rw [List.cons_append, splitF, if_neg hb, ih (fun hm => h (by simp [hm]))]
    simp
/-- pieces with the byte c between them -/
def catF (c : UInt8) : List (List UInt8) → List UInt8
  | [] => []
  | [a] => a
  | a :: b :: t => a ++ c :: catF c (b :: t)
theorem catF_cons (c : UInt8) (a : List UInt8) {t : List (List UInt8)} (h : t ≠ []) : catF c (a :: t) = a ++ c :: catF c t := by
  cases t with
  | nil => exact absurd rfl h
  | cons b t => rfl
theorem cat_split (c : UInt8) (l acc : List UInt8) : catF c (splitF c acc l) = acc ++ l := by
  induction l generalizing acc with
  | nil => simp [splitF, catF]
  | cons b r ih =>
    unfold splitF
    split
    · rename_i hb
      rw [catF_cons c acc (splitF_ne c r []), ih, hb]; simp
    · rw [ih]; simp
theorem cat_lines (c : UInt8) (P : List (List UInt8)) (h : P ≠ []) : catF c P = (P.dropLast.map (fun p => p ++ [c])).flatten ++ P.getLast h := by
  induction P with
  | nil => exact absurd rfl h
  | cons a t ih =>
    cases t with
    | nil => simp [catF]
    | cons b t =>
      rw [catF_cons c a (by simp), ih (by simp)]
      simp [List.dropLast]
/-- the library's way of looking for one byte -/
theorem index_cons (b c : UInt8) (l : List UInt8) : Lib.index (b :: l) [c] = if b = c then 0 else if Lib.index l [c] == -1 then -1 else Lib.index l [c] + 1 := by
  by_cases h : b = c
  · subst h; rw [if_pos rfl, Lib.index]; simp [List.isPrefixOf]
  · rw [if_neg h, Lib.index]
    have hp : ([c] : List UInt8).isPrefixOf (b :: l) = false := by simp [List.isPrefixOf, Ne.symm h]
    rw [hp]; simp
theorem index_nil (c : UInt8) : Lib.index [] [c] = -1 := by simp [Lib.index]
theorem index_at {c : UInt8} {p : List UInt8} (h : c ∉ p) (r : List UInt8) : Lib.index (p ++ c :: r) [c] = p.length := by
  induction p with
  | nil => rw [List.nil_append, index_cons, if_pos rfl]; rfl
  | cons b q ih =>
    have hb : b ≠ c := fun e => h (by simp [e])
    rw [List.cons_append, index_cons, if_neg hb, ih (fun hm => h (by simp [hm]))]
    have : ((q.length : Int) == -1) = false := by rw [beq_eq_false_iff_ne]; omega
    rw [this]; simp
theorem index_no {c : UInt8} {p : List UInt8} (h : c ∉ p) : Lib.index p [c] = -1 := by
  induction p with
  | nil => exact index_nil c
  | cons b q ih =>
    have hb : b ≠ c := fun e => h (by simp [e])
    rw [index_cons, if_neg hb, ih (fun hm => h (by simp [hm]))]; rfl
/-- a text is either without c, or a piece, c and the rest -/
theorem byte_cases (c : UInt8) (s : List UInt8) : c ∉ s ∨ ∃ p r, c ∉ p ∧ s = p ++ c :: r := by
  induction s with
  | nil => exact .inl (by simp)
  | cons b s ih =>
    by_cases hb : b = c
    · exact .inr ⟨[], s, by simp, by rw [hb]; rfl⟩
    · rcases ih with h | ⟨p, r, h1, h2⟩
      · exact .inl (by simp [h, Ne.symm hb])
      · exact .inr ⟨b :: p, r, by simp [h1, Ne.symm hb], by rw [h2]; rfl⟩
theorem count_hit {c : UInt8} {p : List UInt8} (h : c ∉ p) (r : List UInt8) : (p ++ c :: r).count c = r.count c + 1 := by
  rw [List.count_append, List.count_eq_zero.2 h, List.count_cons_self, Nat.zero_add]
theorem lib_split (c : UInt8) (n : Nat) : ∀ s : List UInt8, s.length ≤ n → Lib.splitK [c] 0 (s.count c) s = splitF c [] s := by
  induction n with
  | zero =>
    intro s hs
    have : s = [] := List.eq_nil_of_length_eq_zero (by omega)
    subst this; rfl
  | succ n ih =>
    intro s hs
    rcases byte_cases c s with h | ⟨p, r, hp, rfl⟩
    · rw [List.count_eq_zero.2 h, splitF_no h]; rfl
    · rw [count_hit hp, splitF_hit hp, Lib.splitK, index_at hp]
      have : ((p.length : Int) == -1) = false := by rw [beq_eq_false_iff_ne]; omega
      rw [this, if_neg (by decide)]
      have hd : (p ++ c :: r).drop ((p.length : Int).toNat + ([c] : List UInt8).length) = r := by simp
      have ht : (p ++ c :: r).take ((p.length : Int).toNat + 0) = p := by simp
      rw [hd, ht, ih r (by simp at hs; omega)]; rfl
theorem words_of (s : ByteArray) (c : UInt8) : (Lib.splitB ⟨#[c]⟩ 0 (Lib.countB s ⟨#[c]⟩) s).map (·.data.toList) = splitF c [] s.data.toList := by
  rw [Lib.splitB_data]
  have h := Lib.count_one c s.data.toList
  have h2 : Lib.countB s ⟨#[c]⟩ = s.data.toList.count c := h
  rw [h2]
  exact lib_split c _ _ (Nat.le_refl _)
/-- lines, each with the byte that ends it -/
def linesF (acc : List UInt8) : List UInt8 → List (List UInt8)
  | [] => if acc = [] then [] else [acc]
  | b :: r => if b = 10 then (acc ++ [10]) :: linesF [] r else linesF (acc ++ [b]) r
theorem linesF_hit {p : List UInt8} (h : (10 : UInt8) ∉ p) (r acc : List UInt8) : linesF acc (p ++ 10 :: r) = (acc ++ p ++ [10]) :: linesF [] r := by
  induction p generalizing acc with
  | nil => simp [linesF]
  | cons b q ih =>
    have hb : b ≠ 10 := fun e => h (by simp [e])
    rw [List.cons_append, linesF, if_neg hb, ih (fun hm => h (by simp [hm]))]
    simp
theorem linesF_no {p : List UInt8} (h : (10 : UInt8) ∉ p) (acc : List UInt8) (h0 : acc ++ p ≠ []) : linesF acc p = [acc ++ p] := by
  induction p generalizing acc with
  | nil => rw [linesF, if_neg (by simpa using h0)]; simp
  | cons b q ih =>
    have hb : b ≠ 10 := fun e => h (by simp [e])
    rw [linesF, if_neg hb, ih (fun hm => h (by simp [hm])) _ (by simp)]
    simp
theorem lines_len (n : Nat) : ∀ s : List UInt8, s.length ≤ n → (linesF [] s).length ≤ s.length ∧ ∀ p ∈ linesF [] s, p.length ≤ s.length := by
  induction n with
  | zero =>
    intro s hs
    have : s = [] := List.eq_nil_of_length_eq_zero (by omega)
    subst this; simp [linesF]
  | succ n ih =>
    intro s hs
    rcases byte_cases 10 s with h | ⟨p, r, hp, rfl⟩
    · by_cases h0 : s = []
      · subst h0; simp [linesF]
      · rw [linesF_no h [] (by simpa using h0)]
        have : 0 < s.length := List.length_pos_iff.2 h0
        simp; omega
    · rw [linesF_hit hp]
      obtain ⟨h1, h2⟩ := ih r (by simp at hs; omega)
      refine ⟨by simp; omega, fun q hq => ?_⟩
      rcases List.mem_cons.1 hq with rfl | hq
      · simp
      · have := h2 q hq; simp; omega
/-- the number in decimal digits, read on from acc -/
def numF (acc : Nat) : List UInt8 → Option Nat
  | [] => some acc
  | b :: r => if 48 ≤ b.toNat ∧ b.toNat ≤ 57 then numF (10 * acc + (b.toNat - 48)) r else none
def numS (l : List UInt8) : Int := if l = [] ∨ 7 < l.length ∨ (l.head? = some 48 ∧ 1 < l.length) then -1 else match numF 0 l with
  | some n => n
  | none => -1
theorem numF_snoc (l : List UInt8) (d : UInt8) (acc : Nat) : numF acc (l ++ [d]) = (numF acc l).bind fun m => if 48 ≤ d.toNat ∧ d.toNat ≤ 57 then some (10 * m + (d.toNat - 48)) else none := by
  induction l generalizing acc with
  | nil => simp [numF]
  | cons b r ih =>
    rw [List.cons_append, numF, numF]
    split
    · exact ih _
    · rfl
theorem dig_toNat {u : Nat} (h : u < 10) : (UInt8.ofNat (48 + u)).toNat = 48 + u := by
  rw [UInt8.toNat_ofNat']; omega
theorem numF_dec (u : Nat) : numF 0 (Lib.decDigits u) = some u := by
  induction u using Nat.strongRecOn with
  | _ u ih =>
    by_cases h : u < 10
    · rw [Lib.decDigits, dif_pos h]
      simp [numF, dig_toNat h]; omega
    · rw [Lib.decDigits, dif_neg h, numF_snoc, ih (u / 10) (by omega), Option.bind_some, dig_toNat (by omega), if_pos (by omega)]
      congr 1; omega
theorem dec_len (k : Nat) : ∀ u, u < 10 ^ (k + 1) → (Lib.decDigits u).length ≤ k + 1 := by
  induction k with
  | zero => intro u hu; rw [Lib.decDigits, dif_pos (by omega)]; simp
  | succ k ih =>
    intro u hu
    by_cases h : u < 10
    · rw [Lib.decDigits, dif_pos h]; simp
    · rw [Lib.decDigits, dif_neg h, List.length_append]
      have := ih (u / 10) (by rw [Nat.pow_succ] at hu; omega)
      simp; omega
theorem dec_ne (u : Nat) : Lib.decDigits u ≠ [] := by
  rw [Lib.decDigits]; split <;> simp
theorem dec_mem (u : Nat) : ∀ b ∈ Lib.decDigits u, 48 ≤ b.toNat ∧ b.toNat ≤ 57 := by
  induction u using Nat.strongRecOn with
  | _ u ih =>
    intro b hb
    by_cases h : u < 10
    · rw [Lib.decDigits, dif_pos h] at hb
      obtain rfl : b = UInt8.ofNat (48 + u) := by simpa using hb
      rw [dig_toNat h]; omega
    · rw [Lib.decDigits, dif_neg h] at hb
      rcases List.mem_append.1 hb with hb | hb
      · exact ih (u / 10) (by omega) b hb
      · obtain rfl : b = UInt8.ofNat (48 + u % 10) := by simpa using hb
        rw [dig_toNat (by omega)]; omega
theorem dec_head {u : Nat} (h : 1 ≤ u) : (Lib.decDigits u).head? ≠ some 48 := by
  induction u using Nat.strongRecOn with
  | _ u ih =>
    by_cases h10 : u < 10
    · rw [Lib.decDigits, dif_pos h10]
      intro e
      have := congrArg UInt8.toNat (Option.some.inj e)
      rw [dig_toNat h10] at this
      have h2 : (48 : UInt8).toNat = 48 := rfl
      omega
    · rw [Lib.decDigits, dif_neg h10]
      have := ih (u / 10) (by omega) (by omega)
      have hn := dec_ne (u / 10)
      cases hd : Lib.decDigits (u / 10) with
      | nil => exact absurd hd hn
      | cons a t => rw [hd] at this; simpa using this
theorem itoa_nat (n : Nat) : Lib.itoa (n : Int) = Lib.decDigits n := by
  unfold Lib.itoa; rw [if_neg (by omega), Int.toNat_natCast]
theorem numS_dec {n : Nat} (h : n < 10000000) : numS (Lib.decDigits n) = n := by
  unfold numS
  have hl := dec_len 6 n h
  rw [if_neg, numF_dec]
  rintro (h1 | h1 | ⟨h1, h2⟩)
  · exact dec_ne n h1
  · omega
  · by_cases h0 : n = 0
    · subst h0; rw [Lib.decDigits, dif_pos (by omega)] at h2; simp at h2
    · exact dec_head (by omega) h1
/-- a number without superfluous zeros is written in one way -/
theorem dec_of (l : List UInt8) : ∀ n, l ≠ [] → numF 0 l = some n → (l.head? = some 48 → l.length = 1) → l = Lib.decDigits n ∧ (l.head? ≠ some 48 → 1 ≤ n) := by
  induction hk : l.length using Nat.strongRecOn generalizing l with
  | _ k ih =>
    intro n hne hn hz
    obtain ⟨l', d, rfl⟩ : ∃ l' d, l = l' ++ [d] := ⟨l.dropLast, l.getLast hne, (List.dropLast_concat_getLast hne).symm⟩
    rw [numF_snoc] at hn
    obtain ⟨m, hm, hn⟩ := Option.bind_eq_some_iff.1 hn
    by_cases hd : 48 ≤ d.toNat ∧ d.toNat ≤ 57
    · rw [if_pos hd] at hn
      have hn := Option.some.inj hn
      have hde : d = UInt8.ofNat (48 + (d.toNat - 48)) := UInt8.toNat_inj.1 (by rw [dig_toNat (by omega)]; omega)
      by_cases hl' : l' = []
      · subst hl'
        obtain rfl : m = 0 := by simpa [numF] using hm.symm
        refine ⟨?_, fun h => ?_⟩
        · rw [List.nil_append, Lib.decDigits, dif_pos (by omega), ← hn]
          congr 1; rw [hde]; congr 1; simp; omega
        · have : d.toNat ≠ 48 := fun e => h (by rw [List.nil_append]; show some d = some 48; rw [UInt8.toNat_inj.1 (show d.toNat = (48 : UInt8).toNat from e)])
          omega
      · have hh : (l' ++ [d]).head? = l'.head? := by cases l' with
          | nil => exact absurd rfl hl'
          | cons a t => rfl
        have hlen : (l' ++ [d]).length = l'.length + 1 := by simp
        have hpos : 0 < l'.length := List.length_pos_iff.2 hl'
        rw [hh] at hz ⊢
        have hz' : l'.head? ≠ some 48 := fun e => by have := hz e; omega
        obtain ⟨h1, h2⟩ := ih l'.length (by omega) l' rfl m hl' hm (fun e => absurd e hz')
        have hm1 := h2 hz'
        refine ⟨?_, fun _ => by omega⟩
        rw [Lib.decDigits, dif_neg (by omega), show n / 10 = m by omega, ← h1]
        congr 1
        rw [hde]; congr 2; simp; omega
    · rw [if_neg hd] at hn; cases hn
theorem numS_some {l : List UInt8} {n : Nat} (h : numS l = n) : l = Lib.decDigits n := by
  unfold numS at h
  by_cases hc : l = [] ∨ 7 < l.length ∨ (l.head? = some 48 ∧ 1 < l.length)
  · rw [if_pos hc] at h; omega
  · rw [if_neg hc] at h
    cases hn : numF 0 l with
    | none => rw [hn] at h; simp only [] at h; omega
    | some m =>
      rw [hn] at h
      obtain rfl : m = n := Int.ofNat_inj.1 h
      simp only [not_or, not_and, Nat.not_lt] at hc
      refine (dec_of l m hc.1 hn fun e => ?_).1
      have := hc.2.2 e
      have : 0 < l.length := List.length_pos_iff.2 hc.1
      omega
/-- what the library reads of a number -/
def rdDX (l : List UInt8) : Option Int := match Lib.parseIntB 64 l with
  | .ok v => if Lib.itoa v = l then some v else none
  | _ => none
theorem parseU_snoc (M : Nat) (l : List UInt8) (d : UInt8) (acc m : Nat) (h : Lib.parseUintM M acc l = .ok m) (hd : 48 ≤ d.toNat ∧ d.toNat ≤ 57) (h1 : m < 1844674407370955162) (h2 : m * 10 + (d.toNat - 48) ≤ M) : Lib.parseUintM M acc (l ++ [d]) = .ok (m * 10 + (d.toNat - 48)) := by
  induction l generalizing acc with
  | nil =>
    simp only [Lib.parseUintM, Lib.NumEnd.ok.injEq] at h
    subst h
    rw [List.nil_append, Lib.parseUintM, if_pos hd, if_neg (by omega), if_neg (by omega)]; rfl
  | cons b r ih =>
    rw [Lib.parseUintM] at h
    rw [List.cons_append, Lib.parseUintM]
    split at h
    · rename_i hb
      rw [if_pos hb]
      split at h
      · cases h
      · rename_i h3
        rw [if_neg h3]
        split at h
        · cases h
        · rename_i h4
          rw [if_neg h4]
          exact ih _ h
    · cases h
theorem parseU_dec (u : Nat) (h : u < 1000000000000) : Lib.parseUintM (2 ^ 64 - 1) 0 (Lib.decDigits u) = .ok u := by
  induction u using Nat.strongRecOn with
  | _ u ih =>
    by_cases h10 : u < 10
    · rw [Lib.decDigits, dif_pos h10, Lib.parseUintM, dig_toNat h10, if_pos (by omega), if_neg (by omega), if_neg (by omega), Lib.parseUintM]
      congr 1; omega
    · rw [Lib.decDigits, dif_neg h10]
      have := parseU_snoc (2 ^ 64 - 1) (Lib.decDigits (u / 10)) (UInt8.ofNat (48 + u % 10)) 0 (u / 10) (ih (u / 10) (by omega) (by omega)) (by rw [dig_toNat (by omega)]; omega) (by omega) (by rw [dig_toNat (by omega)]; omega)
      rw [this, dig_toNat (by omega)]
      congr 1; omega
theorem rdD_dec {n : Nat} (h : n < 1000000000000) : rdDX (Lib.decDigits n) = some (n : Int) := by
  have hp := parseU_dec n h
  have hne := dec_ne n
  have hm := dec_mem n
  have hi := itoa_nat n
  unfold rdDX
  have hB : Lib.parseIntB 64 (Lib.decDigits n) = .ok (n : Int) := by
    unfold Lib.parseIntB
    cases hd : Lib.decDigits n with
    | nil => exact absurd hd hne
    | cons a t =>
      rw [hd] at hp hm
      have ha := hm a (by simp)
      have h1 : ¬ (a.toNat = 43 ∨ a.toNat = 45) := by omega
      have h2 : ¬ a.toNat = 45 := by omega
      have h3 : Lib.parseUintB 64 (a :: t) = .ok n := by unfold Lib.parseUintB; rw [if_neg (by simp)]; exact hp
      simp only [if_neg h1, h3]
      rw [if_neg (by omega), if_neg (by omega), if_neg h2]
  rw [hB]
  simp only [hi, if_true]
def numsD : List (List UInt8) → Option (List Int)
  | [] => some []
  | w :: r => match rdDX w with
    | none => none
    | some x => (numsD r).map (fun l => x :: l)
theorem numsD_cons (w : List UInt8) (r : List (List UInt8)) : numsD (w :: r) = (rdDX w).bind fun x => (numsD r).map fun l => x :: l := by
  rw [numsD]; cases rdDX w <;> rfl
theorem trim_line (p : List UInt8) : Lib.trimSuffix (p ++ [10]) [10] = p := by
  unfold Lib.trimSuffix Lib.hasSuffix
  have : ([10] : List UInt8).isSuffixOf (p ++ [10]) = true := by simp [List.isSuffixOf_iff_suffix]
  rw [if_pos this]; simp
theorem cut_word {v : List UInt8} (h : (32 : UInt8) ∉ v) (r : List UInt8) : Lib.cut (v ++ 32 :: r) [32] = (v, r, true) := by
  unfold Lib.cut
  rw [index_at h, if_pos (by omega)]
  simp
end Go.Proofs.YtddihmpiaemadaaGreatDoor
namespace Go.Proofs.YtddihmpiaemadaaGreatDoor
set_option linter.unusedVariables false
set_option linter.unusedSimpArgs false
open Go.RowKit

def verbCh (c : UInt8) : Bool := (decide (97 ≤ c.toNat) && decide (c.toNat ≤ 122)) || c.toNat == 45
def verbOk (l : List UInt8) : Bool := l.all verbCh && decide (1 ≤ l.length) && decide (l.length ≤ 12)
end Go.Proofs.YtddihmpiaemadaaGreatDoor
namespace Go.Proofs.YtddihmpiaemadaaGreatDoor
set_option linter.unusedVariables false
set_option linter.unusedSimpArgs false
open Go.RowKit

structure Ent where
  verb : ByteArray
  before : Int
  after : Int
  chain : Int
def Ent.cells (e : Ent) : List Value := [.string e.verb, .int .i64 e.before, .int .i64 e.after, .int .i64 e.chain]
abbrev entV (v : ByteArray) (b a c : Int) : Value := .agg #[.string v, .int .i64 b, .int .i64 a, .int .i64 c]
def chainL (last : Nat) (v : ByteArray) (b a : Nat) : Nat := crcB (word last ++ v ++ word b ++ word a)
/-- the same for whole numbers -/
def chainI (last : Int) (v : ByteArray) (b a : Int) : Int := chainL last.toNat v b.toNat a.toNat
end Go.Proofs.YtddihmpiaemadaaGreatDoor
namespace Go.Proofs.YtddihmpiaemadaaGreatDoor
set_option linter.unusedVariables false
set_option linter.unusedSimpArgs false
open Go.RowKit

def entOk (i : Nat) (last : Int) (prev : Int) (e : Ent) : Bool :=
  decide (i < 30) && verbOk e.verb.data.toList && inB e.before 0 65535 && inB e.after 0 65535 && (e.chain == chainI last e.verb e.before e.after) && (i == 0 || e.before == prev)
def broken (i : Nat) (last : Int) (prev : Int) : List Ent → Int
  | [] => -1
  | e :: r => if entOk i last prev e then broken (i + 1) e.chain e.after r else i
/-- a slice that holds entries, at the head of block b -/
def EntS (w : World) (b : Nat) (l : List Ent) : Prop := b < w.heap.size ∧ ∀ k e, l[k]? = some e → w.cell? ⟨b, k * 4, none⟩ = some (.string e.verb) ∧ w.cell? ⟨b, k * 4 + 1, none⟩ = some (.int .i64 e.before) ∧ w.cell? ⟨b, k * 4 + 2, none⟩ = some (.int .i64 e.after) ∧ w.cell? ⟨b, k * 4 + 3, none⟩ = some (.int .i64 e.chain)
theorem EntS.below {w w' : World} {b B : Nat} {l : List Ent} (h : EntS w b l) (hb : Below B w w') (hB : b < B) : EntS w' b l :=
  ⟨Nat.lt_of_lt_of_le h.1 hb.size, fun k e he => by
    obtain ⟨h0, h1, h2, h3⟩ := h.2 k e he
    exact ⟨(hb.cell (p := ⟨b, _, none⟩) hB).trans h0, (hb.cell (p := ⟨b, _, none⟩) hB).trans h1, (hb.cell (p := ⟨b, _, none⟩) hB).trans h2, (hb.cell (p := ⟨b, _, none⟩) hB).trans h3⟩⟩

end Go.Proofs.YtddihmpiaemadaaGreatDoor
