/- LedgerText, impl: the walks. -/
import Derived.Test.YtkpjjohanbiagaaDoorLedP
import Derived.Test.YtkpjjohanbiagaaDoorShl
import Derived.Lib.AppendIntMem
import Derived.Deep.RegionHeld3
import Derived.Deep.RegionLaw
namespace Go.Proofs.YtkpjjohanbiagaaDoor
set_option linter.unusedVariables false
set_option linter.unusedSimpArgs false
open Go.RowKit
theorem deci_i (x : Int) (w : World) (h : 0 ≤ x ∧ x ≤ 65535) (tab : Pow w) : Calls Tryd.prog 64 #[.int .i64 x] w fun e w' => e = .returned (.string (strB (Lib.itoa x))) ∧ Below w.heap.size w w' := by
  have HF := Lib.hid (Tryd.strconv_FormatInt_10 x (by omega) (by omega) w tab)
  go_enter Tryd.func64, Tryd.ntmps64
  go_wp2_with (go_at_call 79; refine HF.out.mono ?_; rintro e w1 ⟨rfl, k, os, rfl⟩)
  go_ret
  exact ⟨rfl, Lib.below_grow _ _ (Nat.le_refl _) _ _⟩
theorem join_le (L : List (List UInt8)) (h : ∀ x ∈ L, x.length ≤ 21) : (Lib.join L [32]).length ≤ 22 * L.length := by
  induction L with
  | nil => simp [Lib.join, List.intercalate]
  | cons a r ih =>
    cases r with
    | nil => have := h a (by simp); simp [Lib.join, List.intercalate]; omega
    | cons b r' =>
      have h1 := ih (fun x hx => h x (by simp at hx ⊢; exact .inr hx))
      have h2 := h a (by simp)
      have e : Lib.join (a :: b :: r') [32] = a ++ (32 :: Lib.join (b :: r') [32]) := by
        simp [Lib.join, List.intercalate]
      rw [e]
      simp only [List.length_append, List.length_cons] at h1 ⊢
      omega
set_option maxRecDepth 20000 in
set_option maxHeartbeats 4000000 in
theorem jn_i (g c : Nat) (l : List Int) (w : World) (hc : ∀ (j : Nat) x, l[j]? = some x → w.cell? ⟨g, j, none⟩ = some (.int .i64 x)) (hg : g < w.heap.size) (hn : l.length ≤ 1000) (h0 : 0 < l.length) (hl : ∀ x ∈ l, 0 ≤ x ∧ x ≤ 65535) (tab : Pow w) :
    Calls Tryd.prog 51 #[.slice (some ⟨g, 0, none⟩) l.length c, .string ⟨#[32]⟩] w fun e w' => e = .returned (.string (strB (Lib.join (l.map Lib.itoa) [32]))) ∧ Below w.heap.size w w' := by
  obtain ⟨w1, hmk, o1, hb1, hz1⟩ := strs_made w l.length (by omega)
  have HC := Lib.hid hc
  have HL := Lib.hid hl
  have TB := Lib.hid (fun (w' : World) (hb : Below w.heap.size w w') => tab.below hb)
  have hw1 : w.heap.size < w1.heap.size := by omega
  clear hz1 hc hl
  go_enter Tryd.func51, Tryd.ntmps51
  go_wp2_with (fail)
  go_loopw [13] (fun i wr => ∃ (k : Nat) (W : List ByteArray), k ≤ l.length ∧ i = .int .i64 k ∧ Below w.heap.size w wr ∧ w.heap.size < wr.heap.size ∧ StringL w.heap.size wr (.slice (some ⟨w.heap.size, 0, none⟩) l.length l.length) W ∧ Hid (W.length = l.length) ∧ Hid (∀ j, j < k → W[j]? = (l[j]?).map fun x => strB (Lib.itoa x))) (fun i _ => l.length - (intOf i).toNat)
  case atStart => exact ⟨0, _, by omega, rfl, hb1, hw1, o1, Lib.hid (by simp), Lib.hid fun j hj => by omega⟩
  case round =>
    obtain ⟨k, W, hk, rfl, hb, hzw, ho, HW, HP⟩ := hrel
    have zr := hb.size
    by_cases hlt : k < l.length
    · obtain ⟨x, hx⟩ : ∃ x, l[k]? = some x := ⟨l[k], List.getElem?_eq_getElem hlt⟩
      have px := (hb.cell (p := ⟨g, k, none⟩) hg).trans (HC.out k x hx)
      have hxb := HL.out x (List.mem_of_getElem? hx)
      have HD := Lib.hid (deci_i x wr hxb (TB.out wr hb))
      obtain ⟨y, hy⟩ : ∃ y, W[k]? = some y := ⟨W[k]'(by rw [HW.out]; exact hlt), List.getElem?_eq_getElem _⟩
      have HX := Lib.hid hx
      have HO := Lib.hid ho
      have HY := Lib.hid hy
      clear hx ho hy
      go_wp2_with (fail)
      refine HD.out.mono ?_; rintro e w2 ⟨rfl, hb2⟩
      have o2 := OwnL.below HO.out hb2
      have py : w2.cell? ⟨w.heap.size, k, none⟩ = some (.string y) := StringL.at_ o2 HW.out HY.out
      have pf : w2.frozen? ⟨w.heap.size, k, none⟩ = false := OwnL.frozen o2
      have hset := Lib.hid (StringL.set o2 HW.out (k := k) (by rw [HW.out]; exact hlt) (strB (Lib.itoa x)))
      have hB2 := Lib.hid (hb.trans (hb2.mono zr))
      have hz2 : w.heap.size < w2.heap.size := Nat.lt_of_lt_of_le hzw hb2.size
      clear o2 hb2
      go_wp2
      go_roundw
      case rel => exact ⟨k + 1, W.set k (strB (Lib.itoa x)), by omega, by go_num, Below.setCell hB2.out (p := ⟨w.heap.size, k, none⟩) (Nat.le_refl _) _, by simpa using hz2, hset.out, Lib.hid (by rw [List.length_set]; exact HW.out), Lib.hid fun j hj => by
          by_cases hjk : j = k
          · subst hjk
            rw [HX.out, List.getElem?_set_self (by rw [HW.out]; exact hlt)]; rfl
          · rw [List.getElem?_set_ne (by omega)]; exact HP.out j (by omega)⟩
      case measure => simp [intOf]; omega
    · have hWe : W = l.map fun x => strB (Lib.itoa x) := by
        apply List.ext_getElem?
        intro j
        rw [List.getElem?_map]
        by_cases hj : j < k
        · exact HP.out j hj
        · rw [List.getElem?_eq_none (by rw [HW.out]; omega), List.getElem?_eq_none (by omega)]; rfl
      have hJ : (W.map (·.data.toList)) = l.map Lib.itoa := by
        rw [hWe, List.map_map]
        apply List.map_congr_left
        intro x _
        exact strB_list _
      have hjl : (Lib.join (l.map Lib.itoa) [32]).length ≤ 22 * l.length := by
        have := join_le (l.map Lib.itoa) (fun x hx => by
          obtain ⟨y, hy, rfl⟩ := List.mem_map.1 hx
          exact itoa_le (HL.out y hy))
        simpa using this
      have HJ := Lib.hid (Tryd.strings_Join w.heap.size 0 l.length W ⟨#[32]⟩ wr (fun j x hj => by rw [Nat.zero_add]; exact StringL.at_ ho HW.out hj) hzw (by rw [HW.out]; omega) (by rw [HW.out]; exact Nat.le_refl _) (by rw [hJ]; show (Lib.join (l.map Lib.itoa) [32]).length ≤ _; omega))
      rw [HW.out, hJ] at HJ
      clear hJ hWe hjl
      go_wp2_with (go_at_call 72; refine HJ.out.mono ?_; rintro e w3 ⟨rfl, hb3⟩)
      go_ret
      exact ⟨rfl, hb.trans (hb3.mono zr)⟩
end Go.Proofs.YtkpjjohanbiagaaDoor
