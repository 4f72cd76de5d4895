/- LedgerText, impl: the walk of the loop. -/
import Derived.Test.YtkpjjohanbiagaaDoorLedI
import Derived.Deep.Cut
import Derived.Deep.WholeRow
namespace Go.Proofs.YtkpjjohanbiagaaDoor
set_option linter.unusedVariables false
set_option linter.unusedSimpArgs false
open Go.RowKit
theorem ent_textI (e : Ent) : e.verb ++ ⟨#[32]⟩ ++ strB (Lib.join [Lib.itoa e.before, Lib.itoa e.after, Lib.itoa e.chain] [32]) ++ ⟨#[10]⟩ = strB (entT e) := by
  unfold entT
  apply ByteArray.ext
  apply Array.ext'
  simp [strB]
set_option maxRecDepth 20000 in
set_option maxHeartbeats 4000000 in
theorem ltext_i (B : Nat) (l : List Ent) (v : Value) (w : World) (h : EntL B w v l) (hn : l.length ≤ 1048576) (hv : ∀ e ∈ l, e.verb.size ≤ 1048576) (tab : Pow w) :
    Calls Tryd.prog 19 #[v] w fun e w' => e = .returned (.string (ledS l)) ∧ Below w.heap.size w w' := by
  have HV := Lib.hid (valid_i B v l w hn h hv)
  cases hok : ledgerOk l
  · rw [hok] at HV
    have HF := Lib.hid (ledS_no hok)
    go_enter Tryd.func19, Tryd.ntmps19
    go_wp2_with (fail)
    refine HV.out.mono ?_; rintro e w1 ⟨rfl, hb1⟩
    go_wp2
    go_ret
    exact ⟨ret_str HF.out.symm, hb1⟩
  · rw [hok] at HV
    have HF := Lib.hid (ledS_yes hok)
    have hl30 := led_len hok
    have HE := Lib.hid (fun e he => led_ent (l := l) hok (e := e) he)
    have TB := Lib.hid (fun (w' : World) (hb : Below w.heap.size w w') => tab.below hb)
    obtain ⟨A, c, rfl, hA⟩ := h.shape
    have HC : Hid (∀ (g : Nat), A = some ⟨g, 0, none⟩ → l ≠ [] → EntS w g l) := Lib.hid (fun g hg hl => by
      subst hg
      rcases hA with hl' | ⟨g', e, _, hlt⟩
      · exact absurd hl' hl
      · exact EntS.of h (by injection e with e; injection e with e _ _; subst e; exact hlt))
    clear h hok tab
    go_enter Tryd.func19, Tryd.ntmps19
    go_wp2_with (fail)
    refine HV.out.mono ?_; rintro e w1 ⟨rfl, hb1⟩
    have z1 := hb1.size
    clear HV
    have HI : Hid (Lib.IsBuilderF 86 5 w1.heap.size w1.heap.size (Lib.byteCells []) (w1.alloc (.cells #[.pointer none, .slice none 0 0] 86))) := Lib.hid (Lib.IsBuilderF.of (Lib.fresh_isBuilder _ _ w1))
    have hz2 : w1.heap.size < (w1.alloc (.cells #[.pointer none, .slice none 0 0] 86)).heap.size := by simp
    have hB2 : Below w1.heap.size w1 (w1.alloc (.cells #[.pointer none, .slice none 0 0] 86)) := Below.alloc (Below.refl _ _) (Nat.le_refl _) _
    go_upto_region 5 with fail
    generalize (w1.alloc (.cells #[.pointer none, .slice none 0 0] 86)) = w2 at *
    go_loopw [11] (fun i wr => ∃ (k : Nat) (acc : List UInt8), k ≤ l.length ∧ i = .int .i64 k ∧ acc.length ≤ 80 * k ∧ Below w1.heap.size w1 wr ∧ w1.heap.size < wr.heap.size ∧ Hid (Lib.IsBuilderF 86 5 w1.heap.size w1.heap.size (Lib.byteCells acc) wr) ∧ Hid (ledT l = acc ++ ledT (l.drop k))) (fun i _ => l.length - (intOf i).toNat)
    case atStart => exact ⟨0, [], by omega, rfl, by simp, hB2, hz2, HI, Lib.hid rfl⟩
    case round =>
      clear HI hz2 hB2
      obtain ⟨k, acc, hk, rfl, hac, hb, hzw, HI, HK⟩ := hrel
      have zr := hb.size
      have BR : Below w.heap.size w wr := hb1.trans (hb.mono z1)
      by_cases hlt : k < l.length
      · obtain ⟨e, he⟩ : ∃ e, l[k]? = some e := ⟨l[k], List.getElem?_eq_getElem hlt⟩
        obtain ⟨g, rfl, _, _⟩ := hA.resolve_left (by intro h0; rw [h0] at hlt; simp at hlt)
        obtain ⟨hg, hc⟩ := HC.out g rfl (by intro h0; rw [h0] at hlt; simp at hlt)
        obtain ⟨c0, c1, c2, c3⟩ := hc k e he
        have p0 := (BR.cell (p := ⟨g, _, none⟩) hg).trans c0
        have p1 := (BR.cell (p := ⟨g, _, none⟩) hg).trans c1
        have p2 := (BR.cell (p := ⟨g, _, none⟩) hg).trans c2
        have p3 := (BR.cell (p := ⟨g, _, none⟩) hg).trans c3
        obtain ⟨b0, b1, b2, b3⟩ := HE.out e (List.mem_of_getElem? he)
        have HN := ledT_next he HK
        have HT := Lib.hid (ent_textI e)
        clear he hc c0 c1 c2 c3
        have hl := entT_le ⟨b0, b1, b2, b3⟩
        have hsa : ∀ x y : ByteArray, (x ++ y).size = x.size + y.size := fun _ _ => ByteArray.size_append
        have hsj : (strB (Lib.join [Lib.itoa e.before, Lib.itoa e.after, Lib.itoa e.chain] [32])).size ≤ 100 := by
          rw [strB_size]
          have := join_le [Lib.itoa e.before, Lib.itoa e.after, Lib.itoa e.chain] (fun x hx => by
            simp at hx
            rcases hx with rfl | rfl | rfl
            · exact itoa_le b1
            · exact itoa_le b2
            · exact itoa_le b3)
          simp at this; omega
        have hBx : Below wr.heap.size wr (wr.alloc (.cells #[.string e.verb, .int .i64 e.before, .int .i64 e.after, .int .i64 e.chain] 48)) := Below.alloc (Below.refl _ _) (Nat.le_refl _) _
        have hBj : Below wr.heap.size wr (((wr.alloc (.cells #[.string e.verb, .int .i64 e.before, .int .i64 e.after, .int .i64 e.chain] 48)).alloc (.cells #[.int .i64 e.before, .int .i64 e.after, .int .i64 e.chain] 2)).drew) := Below.drew (Below.alloc hBx (by simp) _)
        have hsj1 : wr.heap.size + 2 = ((((wr.alloc (.cells #[.string e.verb, .int .i64 e.before, .int .i64 e.after, .int .i64 e.chain] 48)).alloc (.cells #[.int .i64 e.before, .int .i64 e.after, .int .i64 e.chain] 2)).drew)).heap.size := by show _ = (World.alloc _ _).heap.size; simp
        have hh0 : ((wr.alloc (.cells #[.string e.verb, .int .i64 e.before, .int .i64 e.after, .int .i64 e.chain] 48))).heap[wr.heap.size]? = some (.cells #[.string e.verb, .int .i64 e.before, .int .i64 e.after, .int .i64 e.chain] 48 (0, 0)) := heap_alloc_last _ _
        have hhj : ((((wr.alloc (.cells #[.string e.verb, .int .i64 e.before, .int .i64 e.after, .int .i64 e.chain] 48)).alloc (.cells #[.int .i64 e.before, .int .i64 e.after, .int .i64 e.chain] 2)).drew)).heap[wr.heap.size]? = some (.cells #[.string e.verb, .int .i64 e.before, .int .i64 e.after, .int .i64 e.chain] 48 (0, 0)) := (Lib.alloc_old _ _ _ (by simp)).trans hh0
        have S4 : Hid (∀ w' : World, w'.heap[wr.heap.size]? = some (.cells #[.string e.verb, .int .i64 e.before, .int .i64 e.after, .int .i64 e.chain] 48 (0, 0)) → w'.cell? ⟨wr.heap.size, 0, none⟩ = some (.string e.verb) ∧ w'.cell? ⟨wr.heap.size, 1, none⟩ = some (.int .i64 e.before) ∧ w'.cell? ⟨wr.heap.size, 2, none⟩ = some (.int .i64 e.after) ∧ w'.cell? ⟨wr.heap.size, 3, none⟩ = some (.int .i64 e.chain)) := Lib.hid (fun w' h => ⟨Lib.cell_of_heap h 0, Lib.cell_of_heap h 1, Lib.cell_of_heap h 2, Lib.cell_of_heap h 3⟩)
        have HJ := Lib.hid (jn_i (wr.heap.size + 1) 3 [e.before, e.after, e.chain] (((wr.alloc (.cells #[.string e.verb, .int .i64 e.before, .int .i64 e.after, .int .i64 e.chain] 48)).alloc (.cells #[.int .i64 e.before, .int .i64 e.after, .int .i64 e.chain] 2)).drew) (fun j x hj => by
          match j, hj with
          | 0, hj => (simp at hj; subst hj; show (World.alloc _ _).cell? _ = _; simp)
          | 1, hj => (simp at hj; subst hj; show (World.alloc _ _).cell? _ = _; simp)
          | 2, hj => (simp at hj; subst hj; show (World.alloc _ _).cell? _ = _; simp)
          | (q + 3), hj => simp at hj) (by omega) (by simp) (by simp) (fun x hx => by
            simp at hx
            rcases hx with rfl | rfl | rfl
            · exact b1
            · exact b2
            · exact b3) (TB.out _ (BR.trans (hBj.mono (by have := BR.size; omega)))))
        have HWS := Lib.hid (fun (w3 : World) (hb3 : Below wr.heap.size wr w3) (s : ByteArray) (hs : s.size ≤ 4000) => Tryd.Builder_WriteString_k w1.heap.size w1.heap.size (Lib.byteCells acc) s w3 (IsBuilderF.keep HI.out hb3) (by rw [Lib.byteCells_length]; omega) (by have := hb3.size; omega))
        have hts : (e.verb ++ ⟨#[32]⟩ ++ strB (Lib.join [Lib.itoa e.before, Lib.itoa e.after, Lib.itoa e.chain] [32]) ++ ⟨#[10]⟩).size ≤ 4000 := by rw [HT.out, strB_size]; omega
        have hx1 : ¬ (9223372036854775807 < e.verb.size + 1) := by omega
        have hx2 : ¬ (9223372036854775807 < e.verb.size + 1 + (strB (Lib.join [Lib.itoa e.before, Lib.itoa e.after, Lib.itoa e.chain] [32])).size) := by omega
        have hx3 : ¬ (9223372036854775807 < e.verb.size + 1 + (strB (Lib.join [Lib.itoa e.before, Lib.itoa e.after, Lib.itoa e.chain] [32])).size + 1) := by omega
        have hne1 : wr.heap.size ≠ w1.heap.size := by omega
        go_wp2_with (fail)
        go_region_held3 (fun w' => w'.cell? ⟨wr.heap.size, 0, none⟩ = some (.string e.verb) ∧ w'.cell? ⟨wr.heap.size, 1, none⟩ = some (.int .i64 e.before) ∧ w'.cell? ⟨wr.heap.size, 2, none⟩ = some (.int .i64 e.after) ∧ w'.cell? ⟨wr.heap.size, 3, none⟩ = some (.int .i64 e.chain))
          (first | exact S4.out _ hh0 | exact S4.out _ hhj | exact S4.out _ hh3 | exact S4.out _ hh4)
          (first | (go_at_call 51; refine HJ.out.mono ?_; rintro r w3 ⟨rfl, hb3⟩; have hB3 := hBj.trans (hb3.mono (Nat.le_trans (Nat.le_add_right _ 2) (Nat.le_of_eq hsj1))); have hh3 := (hb3.block wr.heap.size (Nat.lt_of_lt_of_le (Nat.lt_add_of_pos_right (Nat.zero_lt_two)) (Nat.le_of_eq hsj1))).trans hhj; have HW3 := Lib.hid (HWS.out w3 hB3 _ hts)) | (go_at_call 50; refine HW3.out.mono ?_; rintro r w4 ⟨rfl, hI4, hb4, hO4⟩; have HI4 := Lib.hid hI4; have HB4 := Lib.hid hb4; have hh4 := others_cell hO4 hh3 hne1 (by decide); clear hI4 hb4 hO4))
        have hI5 : Lib.IsBuilderF 86 5 w1.heap.size w1.heap.size (Lib.byteCells (acc ++ entT e)) w4 := .inr (by
          have := HI4.out
          rw [Lib.strCells_eq, HT.out, strB_list, ← Lib.byteCells_append] at this
          exact this)
        have HI5 := Lib.hid hI5
        have hB5 : Below w1.heap.size w1 w4 := (hb.trans (hB3.mono zr)).trans HB4.out
        have hz5 : w1.heap.size < w4.heap.size := by have h1 := hB3.size; have h2 := HB4.out.size; omega
        clear hh0 hhj hh3 hh4 hI5 HI4 HW3 HJ S4 hx1 hx2 hx3 hts
        go_wp2
        go_roundw
        case rel => exact ⟨k + 1, acc ++ entT e, by omega, by go_num, by simp; omega, hB5, hz5, HI5, HN⟩
        case measure => simp [intOf]; omega
      · have hT := ledT_end (by omega) HK
        have HS := Lib.hid (Tryd.Builder_String_any_k w1.heap.size w1.heap.size acc wr HI.out zr)
        go_wp2_with (go_at_call 52; refine HS.out.mono ?_; rintro r w4 ⟨rfl, _, hb4, _⟩)
        go_ret
        exact ⟨ret_str (by rw [HF.out, hT]; rfl), (hb1.trans (hb.mono z1)).trans (hb4.mono z1)⟩
end Go.Proofs.YtkpjjohanbiagaaDoor
