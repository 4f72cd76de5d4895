/- strings.Lines: what it yields. The walk. -/
import Derived.Test.YtkpjjohanbiagaaDoorRndB
import Derived.Test.YtkpjjohanbiagaaDoorSplP
import Derived.Test.YtkpjjohanbiagaaDoorShl
import Derived.Shelf.RegionOpen
import Derived.WalkKit
import Derived.OwnWalkIn
import Derived.TacticsInMore
import Derived.LoopNIn
import Derived.LoopIn
namespace Go.Proofs.YtkpjjohanbiagaaDoor
set_option linter.unusedVariables false
set_option linter.unusedSimpArgs false
open Go.RowKit Go.Shelf
attribute [local go_sem] Oper.semAt_some
theorem lines_call (s : ByteArray) (w : World) : Calls Tryd.prog 28 #[.string s] w fun e w' => e = .returned (.func (.func 57) #[] #[.pointer (some ⟨w.heap.size, 0, none⟩)]) ∧ w' = w.alloc (.cells #[.string s] 9) := by
  go_enter Tryd.func28, Tryd.ntmps28
  go_wp2
  go_ret
  exact ⟨rfl, rfl⟩
/-- how long the text in the box is, read off the world -/
def leftB (b : Nat) (w : World) : Nat := match w.cell? ⟨b, 0, none⟩ with
  | some (.string t) => t.size
  | _ => 0
theorem leftB_eq {b : Nat} {w : World} {t : ByteArray} (h : w.cell? ⟨b, 0, none⟩ = some (.string t)) : leftB b w = t.size := by unfold leftB; rw [h]
theorem index_byte (l : List UInt8) (c : UInt8) : Lib.indexByte l c = Lib.index l [c] := by
  induction l with
  | nil => rw [index_nil]; rfl
  | cons b l ih =>
    rw [index_cons, Lib.indexByte, ih]
    by_cases h : b = c
    · rw [if_pos h, if_pos (by simpa using h)]
    · rw [if_neg h, if_neg (by simpa using h)]
theorem strB_extract (l : List UInt8) (a b : Nat) : (strB l).extract a b = strB ((l.drop a).take (b - a)) := by
  rw [← strB_data ((strB l).extract a b), Lib.extract_data, strB_list]
theorem line_take {p r : List UInt8} : (strB (p ++ 10 :: r)).extract 0 (p.length + 1) = strB (p ++ [10]) := by
  rw [strB_extract]
  congr 1
  rw [List.drop_zero, Nat.sub_zero, List.take_length_add_append]; rfl
theorem line_drop {p r : List UInt8} : (strB (p ++ 10 :: r)).extract (p.length + 1) (p.length + 1 + r.length) = strB r := by
  rw [strB_extract]
  congr 1
  rw [List.drop_length_add_append, show p.length + 1 + r.length - (p.length + 1) = r.length by omega]
  simp
set_option maxRecDepth 100000 in
set_option maxHeartbeats 2000000 in
theorem lines_seq (n b : Nat) (s : List UInt8) (w : World) (hn : 1 ≤ n) (hs : s.length ≤ 1048576) (hc : w.cell? ⟨b, 0, none⟩ = some (.string (strB s))) (hf : w.frozen? ⟨b, 0, none⟩ = false) :
    SeqBox n Tryd.prog 57 #[.pointer (some ⟨b, 0, none⟩)] (fun x : List UInt8 => .string (strB x)) b (linesF [] s) w := by
  intro l J Jx W hW hJ hJb hY h0
  have hb := World.block_lt_of_cell? w _ hc
  have hcW := (hW.cell (p := ⟨b, 0, none⟩) hb).trans hc
  have hfW := (hW.frozen (p := ⟨b, 0, none⟩) hb).trans hf
  have hmx : Tryd.prog.follows .mixedOrders = true := by kernel_rfl
  refine callsIn_of_wp Tryd.func57 rfl trivial ?_ rfl
  simp only [Tryd.ntmps57, List.size_toArray, List.length_cons, List.length_nil, Nat.reduceAdd, Nat.reduceSub, Array.replicate_succ, Array.replicate_zero, List.push_toArray, List.append_toArray, List.nil_append, List.cons_append]
  gi_wp2
  gi_loopw [3] (fun _ wr => ∃ (pre : List (List UInt8)) (r : List UInt8), linesF [] s = pre ++ linesF [] r ∧ r.length ≤ 1048576 ∧ wr.cell? ⟨b, 0, none⟩ = some (.string (strB r)) ∧ wr.frozen? ⟨b, 0, none⟩ = false ∧ J pre wr) (fun _ wr => leftB b wr)
  case atStart => exact ⟨[], s, rfl, hs, hcW, hfW, h0⟩
  case round =>
    obtain ⟨pre, r, hx, hrl, hcr, hfr, hJs⟩ := hrel
    have hsz := strB_size r
    have hML := leftB_eq hcr
    have HI := Lib.hid (Tryd.strings_IndexByte (strB r) 10 wr)
    rcases byte_cases 10 r with h10 | ⟨p, r', hp, rfl⟩
    · by_cases hr0 : r = []
      · subst hr0
        rw [show strB [] = .empty from rfl] at hcr
        have hx' : linesF [] s = pre := by rw [hx]; simp [linesF]
        gi_wp2
        go_end0
        exact ⟨⟨_, rfl⟩, .inl (by rw [hx']; exact hJs)⟩
      · have hlen : 0 < r.length := List.length_pos_iff.2 hr0
        have hx' : linesF [] s = pre ++ [r] := by rw [hx, linesF_no h10 [] (by simpa using hr0)]; rfl
        have hI2 : Hid (Calls Tryd.prog 58 #[.string (strB r), .int .u8 10] wr fun e w' => e = .returned (.int .i64 (-1)) ∧ w' = wr) := Lib.hid (by
          refine HI.out.mono ?_
          rintro e w' ⟨rfl, hw⟩
          refine ⟨ret_int ?_, hw⟩
          rw [index_byte, strB_list]; exact index_no h10)
        have HX := Lib.hid hx'
        have d1 : decide (0 < (strB r).size) = true := decide_eq_true (by omega)
        have d2 : decide ((0 : Int) < ((strB r).size : Int)) = true := decide_eq_true (by omega)
        obtain ⟨fn, tmps, assign, body, hy, hR⟩ := hY pre r (wr.setCell ⟨b, 0, none⟩ (.string { data := #[] })) (hJb _ _ _ hJs) (by rw [hx']; exact List.prefix_refl _)
        clear hx hx' h10 hr0 HI
        generalize hrr : strB r = sr at *
        gi_wp2_with (refine ⟨trivial, ?_⟩; gi_at_call 58; refine (callsIn_wide.2 hI2.out).mono ?_; rintro e w' ⟨rfl, hw⟩; obtain rfl := hw.symm)
        refine hR.mono ?_
        rintro e W3 (⟨rfl, hJ3, hk3⟩ | ⟨rfl, hJx3⟩)
        · have hc3 : W3.cell? ⟨b, 0, none⟩ = some (.string (strB [])) := (World.cell?_of_block (a := ⟨b, 0, none⟩) hk3).trans (World.cell?_setCell_same _ _ _ hcr)
          have hf3 : W3.frozen? ⟨b, 0, none⟩ = false := (World.frozen?_of_block (a := ⟨b, 0, none⟩) hk3).trans ((World.frozen?_setCell _ _ _ _).trans hfr)
          have hm3 := leftB_eq hc3
          gi_wp2
          go_roundw
          case rel => exact ⟨pre ++ [r], [], by rw [HX.out]; simp [linesF], by simp, hc3, hf3, hJ3⟩
          case measure => rw [hm3, hML]; simp [strB_size]; omega
        · gi_wp2
          refine bodyPost_ret (results_none rfl _ _ _) rfl ?_
          exact ⟨⟨_, rfl⟩, .inr ⟨pre ++ [r], by rw [HX.out]; exact List.prefix_refl _, hJx3⟩⟩
    · have hlen : (p ++ 10 :: r').length = p.length + 1 + r'.length := by simp; omega
      have hx' : linesF [] s = (pre ++ [p ++ [10]]) ++ linesF [] r' := by rw [hx, linesF_hit hp]; simp
      have hI2 : Hid (Calls Tryd.prog 58 #[.string (strB (p ++ 10 :: r')), .int .u8 10] wr fun e w' => e = .returned (.int .i64 (p.length : Int)) ∧ w' = wr) := Lib.hid (by
        refine HI.out.mono ?_
        rintro e w' ⟨rfl, hw⟩
        refine ⟨ret_int ?_, hw⟩
        rw [index_byte, strB_list]; exact index_at hp r')
      have HX := Lib.hid hx'
      have d1 : decide (0 < (strB (p ++ 10 :: r')).size) = true := decide_eq_true (by omega)
      have d2 : decide ((0 : Int) < ((strB (p ++ 10 :: r')).size : Int)) = true := decide_eq_true (by omega)
      have e1 := line_take (p := p) (r := r')
      have e2 := line_drop (p := p) (r := r')
      obtain ⟨fn, tmps, assign, body, hy, hR⟩ := hY pre (p ++ [10]) (wr.setCell ⟨b, 0, none⟩ (.string (strB r'))).drew (hJ _ _ _ none (hJb _ _ _ hJs) ⟨rfl, rfl, rfl, Nat.le_refl _, fun _ _ _ => rfl⟩ (fun r e => by cases e)) (by rw [hx']; exact List.prefix_append _ _)
      have hpl : p.length + 1 ≤ (strB (p ++ 10 :: r')).size := by omega
      have hrl' : r'.length ≤ 1048576 := by omega
      generalize hrr : strB (p ++ 10 :: r') = sr at *
      generalize hqq : strB (p ++ [10]) = sq at *
      have hrB : (strB r').size = r'.length := strB_size r'
      generalize hss : strB r' = ss at *
      clear hx hx' HI
      gi_wp2_with (refine ⟨trivial, ?_⟩; gi_at_call 58; refine (callsIn_wide.2 hI2.out).mono ?_; rintro e w' ⟨rfl, hw⟩; obtain rfl := hw.symm)
      have hcd : wr.drew.cell? ⟨b, 0, none⟩ = some (.string sr) := hcr
      have hfd : wr.drew.frozen? ⟨b, 0, none⟩ = false := hfr
      gi_region_o
      all_goals
        gi_wp2
        refine hR.mono ?_
        rintro e W3 (⟨rfl, hJ3, hk3⟩ | ⟨rfl, hJx3⟩)
        · have hc3 : W3.cell? ⟨b, 0, none⟩ = some (.string ss) := (World.cell?_of_block (a := ⟨b, 0, none⟩) hk3).trans (World.cell?_setCell_same _ _ _ hcr)
          have hf3 : W3.frozen? ⟨b, 0, none⟩ = false := (World.frozen?_of_block (a := ⟨b, 0, none⟩) hk3).trans ((World.frozen?_setCell _ _ _ _).trans hfr)
          have hm3 := leftB_eq hc3
          gi_wp2
          go_roundw
          case rel => exact ⟨pre ++ [p ++ [10]], r', HX.out, hrl', by rw [hss]; exact hc3, hf3, hJ3⟩
          case measure => rw [hm3, hML, hrB, hsz]; omega
        · gi_wp2
          refine bodyPost_ret (results_none rfl _ _ _) rfl ?_
          exact ⟨⟨_, rfl⟩, .inr ⟨pre ++ [p ++ [10]], by rw [HX.out]; exact List.prefix_append _ _, hJx3⟩⟩
end Go.Proofs.YtkpjjohanbiagaaDoor
