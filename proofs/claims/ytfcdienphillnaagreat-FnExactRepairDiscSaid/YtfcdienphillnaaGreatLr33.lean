/- A disc without contents, the implementation: the walk. A disc without contents, the reference: the walk. -/
import Derived.Test.YtfcdienphillnaaGreatLr32
import Derived.Test.YtfcdienphillnaaGreatLr03
import Derived.Test.YtfcdienphillnaaGreatLr27
import Derived.Deep.RegionHeld3
namespace Go.Proofs.YtfcdienphillnaaGreat
set_option linter.unusedVariables false
set_option linter.unusedSimpArgs false
open Go.RowKit
def zSec (m : Nat) : Sec := ⟨strN (List.replicate m 0), 3⟩
def nSec : Sec := ⟨.empty, 0⟩
theorem secv_info : (Tryz.prog.info? 70).map (fun i => (i.zero, i.size, i.bytes)) = some (some (.agg #[.string .empty, .int .i64 0]), 2, 24) := by kernel_rfl
theorem secs_set {B g n c : Nat} {w : World} {l : List Sec} (h : SecOwn B w (.slice (some ⟨g, 0, none⟩) n c) l) (hn : l.length = n) {k : Nat} (hk : k < n) (s : Sec) :
    SecOwn B ((w.setCell ⟨g, k * 2, none⟩ (.string s.data)).setCell ⟨g, k * 2 + 1, none⟩ (.int .i64 s.state)) (.slice (some ⟨g, 0, none⟩) n c) (l.set k s) := by
  subst hn
  have h1 := own_put2 (o := k * 2) h (.string s.data) (.int .i64 s.state) (by rw [flat_len Sec.len]; omega)
  have h2 := flat_put Sec.len l k s hk
  have h3 : putAt (flat Sec.cells l) (k * 2) [.string s.data, .int .i64 s.state] = flat Sec.cells (l.set k s) := h2
  rw [h3] at h1
  unfold SecOwn OwnL
  rw [List.length_set]
  exact h1
theorem secs_at {B g n c : Nat} {w : World} {l : List Sec} (h : SecOwn B w (.slice (some ⟨g, 0, none⟩) n c) l) (hn : l.length = n) {k : Nat} {s : Sec} (hs : l[k]? = some s) :
    w.cell? ⟨g, k * 2, none⟩ = some (.string s.data) ∧ w.cell? ⟨g, k * 2 + 1, none⟩ = some (.int .i64 s.state) ∧ ∀ o, w.frozen? ⟨g, o, none⟩ = false := by
  subst hn
  exact ⟨OwnL.cell Sec.len h hs (j := 0) rfl, OwnL.cell Sec.len h hs (j := 1) rfl, fun o => OwnL.frozen h⟩
theorem set2_below {w w6 : World} {b o : Nat} (h : Below w.heap.size w w6) (hb : w.heap.size ≤ b) (v0 v1 : Value) : Below w.heap.size w ((w6.setCell ⟨b, o, none⟩ v0).setCell ⟨b, o + 1, none⟩ v1) := Below.setCell (Below.setCell h hb _) hb _
def fillL {α : Type} (N j : Nat) (z a : α) : List α := List.replicate j z ++ List.replicate (N - j) a
theorem fillL_len {α : Type} {N j : Nat} (z a : α) (h : j ≤ N) : (fillL N j z a).length = N := by unfold fillL; simp; omega
theorem fillL_next {α : Type} {N j : Nat} (z a : α) (h : j < N) : (fillL N j z a).set j z = fillL N (j + 1) z a := by
  unfold fillL
  rw [List.set_append_right _ _ (by simp)]
  have e1 : N - j = (N - (j + 1)) + 1 := by omega
  rw [e1, List.replicate_succ]
  simp only [List.length_replicate, Nat.sub_self, List.set_cons_zero]
  rw [List.replicate_succ', List.append_assoc]; rfl
theorem fillL_end {α : Type} {N : Nat} (z a : α) : fillL N N z a = List.replicate N z := by unfold fillL; simp
theorem set5_row {w : World} {b : Nat} {a0 a1 a2 a3 a4 : Value} (h : Row w b [a0, a1, a2, a3, a4]) (v0 v1 v2 v3 v4 : Value) : Row (((((w.setCell ⟨b, 0, none⟩ v0).setCell ⟨b, 1, none⟩ v1).setCell ⟨b, 2, none⟩ v2).setCell ⟨b, 3, none⟩ v3).setCell ⟨b, 4, none⟩ v4) b [v0, v1, v2, v3, v4] := by
  have h0 := h.set (o := 0) v0 (by simp)
  have h1 := h0.set (o := 1) v1 (by simp)
  have h2 := h1.set (o := 2) v2 (by simp)
  have h3 := h2.set (o := 3) v3 (by simp)
  have h4 := h3.set (o := 4) v4 (by simp)
  exact h4
set_option maxRecDepth 20000 in
set_option maxHeartbeats 8000000 in
theorem new_i (c h p s : Int) (T N : Nat) (w : World) (hT : c * h = (T : Int)) (hN : (T : Int) * p = (N : Int)) (hT1 : T ≤ 1048576) (hN1 : N ≤ 1048576) (hs : 0 ≤ s ∧ s ≤ 2) :
    Calls Tryz.prog 103 #[.int .i64 c, .int .i64 h, .int .i64 p, .int .i64 s] w fun r w' => ∃ v', r = .returned (.agg #[.int .i64 c, .int .i64 h, .int .i64 p, .int .i64 s, v']) ∧ SecOwn w.heap.size w' v' (List.replicate N (zSec (szN s))) ∧ Below w.heap.size w w' := by
  obtain ⟨i0, hi, hz0, hz1, hz2⟩ := info_parts secv_info
  have hm := szN_le hs
  go_enter Tryz.func103, Tryz.ntmps103
  go_wp2_with (at_make; refine stopQ ?_)
  intro _
  refine wpList_make_full _ rfl _ _ _ rfl (w.heap.size + 1) 70 i0 (.agg #[.string .empty, .int .i64 0]) 2 Tryz.underlying41 hi hz0 hz1 .i64 .i64 _ _ N rfl rfl rfl rfl (by rw [hz2]; omega) (by unfold maxLen; omega) (by simp) ?_
  intro w1 hown hgrow
  have zb0 : (w.alloc (.cells #[.int .i64 0, .int .i64 0, .int .i64 0, .int .i64 0, .slice none 0 0] 43)).heap.size = w.heap.size + 1 := by simp
  have RR0 := Row.alloc w #[.int .i64 0, .int .i64 0, .int .i64 0, .int .i64 0, .slice none 0 0] 43
  have FR0 := frozen_alloc w #[.int .i64 0, .int .i64 0, .int .i64 0, .int .i64 0, .slice none 0 0] 43
  have HB0 : Below w.heap.size w (w.alloc (.cells #[.int .i64 0, .int .i64 0, .int .i64 0, .int .i64 0, .slice none 0 0] 43)) := Below.alloc (Below.refl _ _) (Nat.le_refl _) _
  have hg1 : Below (w.alloc (.cells #[.int .i64 0, .int .i64 0, .int .i64 0, .int .i64 0, .slice none 0 0] 43)).heap.size (w.alloc (.cells #[.int .i64 0, .int .i64 0, .int .i64 0, .int .i64 0, .slice none 0 0] 43)) w1 := (Below.refl _ _).grown hgrow (Nat.le_refl _) (by simp)
  rw [made_flat (f := Sec.cells) Sec.len (by omega) nSec (Value.agg #[.string .empty, .int .i64 0]).cells rfl] at hown
  have hlt1 := (hown.lt _ rfl).2
  rw [zb0] at hlt1
  have RR1 := RR0.below hg1 (by omega)
  have FR1 := frozen_below FR0 hg1 (by omega)
  have HB1 := HB0.trans (hg1.mono (by omega))
  rw [zb0] at hown
  have HOW1 : SecOwn (w.heap.size + 1) w1 (.slice (some ⟨w.heap.size + 1, 0, none⟩) N N) (fillL N 0 (zSec (szN s)) nSec) := by
    unfold SecOwn OwnL
    rw [fillL_len _ _ (Nat.zero_le _)]
    have : fillL N 0 (zSec (szN s)) nSec = List.replicate N nSec := by unfold fillL; simp
    rw [this]; exact hown
  rw [zb0]
  clear hown hgrow RR0 FR0 hg1 HB0 zb0
  go_wp2_with (fail)
  have zs2 : (((w1.alloc (.cells #[.int .i64 c, .int .i64 h, .int .i64 p, .int .i64 s, .slice (some ⟨w.heap.size + 1, 0, none⟩) N N] 43)))).heap.size = w1.heap.size + 1 := by simp
  have RB2 := Row.alloc w1 #[.int .i64 c, .int .i64 h, .int .i64 p, .int .i64 s, .slice (some ⟨w.heap.size + 1, 0, none⟩) N N] 43
  have hb12 : Below w1.heap.size w1 ((w1.alloc (.cells #[.int .i64 c, .int .i64 h, .int .i64 p, .int .i64 s, .slice (some ⟨w.heap.size + 1, 0, none⟩) N N] 43))) := Below.alloc (Below.refl _ _) (Nat.le_refl _) _
  have RR2 := RR1.below hb12 (by omega)
  have FR2 := frozen_below FR1 hb12 (by omega)
  have HB2 := HB1.trans (hb12.mono (by omega))
  have HOW2 := OwnL.below HOW1 hb12
  generalize hbb : w1.heap.size = bb at *
  generalize ((w1.alloc (.cells #[.int .i64 c, .int .i64 h, .int .i64 p, .int .i64 s, .slice (some ⟨w.heap.size + 1, 0, none⟩) N N] 43))) = w2 at *
  clear hb12 RR1 FR1 HB1 HOW1
  go_loopw [25] (fun ii wr => ∃ j : Nat, j ≤ N ∧ ii = .int .i64 j ∧ Below w.heap.size w wr ∧ Hid (SecOwn (w.heap.size + 1) wr (.slice (some ⟨w.heap.size + 1, 0, none⟩) N N) (fillL N j (zSec (szN s)) nSec)) ∧ Hid (Row wr bb [.int .i64 c, .int .i64 h, .int .i64 p, .int .i64 s, .slice (some ⟨w.heap.size + 1, 0, none⟩) N N]) ∧ Hid (Row wr w.heap.size [.int .i64 0, .int .i64 0, .int .i64 0, .int .i64 0, .slice none 0 0]) ∧ Hid (∀ o, wr.frozen? ⟨w.heap.size, o, none⟩ = false) ∧ bb < wr.heap.size) (fun ii _ => N - (intOf ii).toNat)
  case atStart => exact ⟨0, by omega, rfl, HB2, Lib.hid HOW2, Lib.hid RB2, Lib.hid RR2, Lib.hid FR2, by omega⟩
  case round =>
    clear HB2 HOW2 RB2 RR2 FR2
    obtain ⟨j, hj, rfl, hb, HOW, HRB, HRR, HFR, hbbr⟩ := hrel
    have zr := hb.size
    have b4 := HRB.out 4 _ rfl
    by_cases hlt : j < N
    · have hZ := Lib.hid (zeros_i (szN s) wr.drew (by omega))
      have hBY := Lib.hid (fun (w' : World) => bytes_i s w' hs)
      have hne1 : bb ≠ w.heap.size + 1 := by omega
      have hne2 : w.heap.size + 1 ≠ bb := by omega
      have hlen : (fillL N j (zSec (szN s)) nSec).length = N := fillL_len _ _ hj
      have hget : (fillL N j (zSec (szN s)) nSec)[j]? = some nSec := by
        unfold fillL
        rw [List.getElem?_append_right (by simp), List.length_replicate, Nat.sub_self, List.getElem?_replicate, if_pos (by omega)]
      have HGET := Lib.hid hget
      have HLEN := Lib.hid hlen
      have hlt' : (j : Int) < (N : Int) := by omega
      clear hget hlen
      go_wp2_with (fail)
      go_region_held3 (fun w' => w'.cell? ⟨bb, 4, none⟩ = some (.slice (some ⟨w.heap.size + 1, 0, none⟩) N N))
        (first | exact b4 | exact b46 | exact HS6.out _ _)
        (first
          | (go_at_call 102; refine (hBY.out _).mono ?_; rintro r w5 ⟨rfl, rfl⟩)
          | (go_at_call 129; refine hZ.out.mono ?_; rintro r w6 ⟨rfl, hb6⟩; have HB6 := Lib.hid ((Below.refl wr.heap.size wr).drew.trans hb6); have HO6 := Lib.hid (OwnL.below HOW.out HB6.out); have HR6 := Lib.hid (HRB.out.below HB6.out hbbr); have b46 := HR6.out 4 _ rfl; have HS6 : Hid (∀ v0 v1, ((w6.setCell ⟨w.heap.size + 1, j * 2, none⟩ v0).setCell ⟨w.heap.size + 1, j * 2 + 1, none⟩ v1).cell? ⟨bb, 4, none⟩ = some (.slice (some ⟨w.heap.size + 1, 0, none⟩) N N)) := Lib.hid (fun v0 v1 => ((HR6.out.set_other v0 hne1).set_other v1 hne1) 4 _ rfl); obtain ⟨q0, q1, fz⟩ := secs_at HO6.out HLEN.out HGET.out))
      have HOW7 := secs_set HO6.out HLEN.out hlt (zSec (szN s))
      rw [fillL_next _ _ hlt] at HOW7
      have HB7 := set2_below (hb.trans (HB6.out.mono zr)) (b := w.heap.size + 1) (o := j * 2) (by omega) (.string (strN (List.replicate (szN s) 0))) (.int .i64 3)
      have hz7 : w6.heap.size ≤ ((w6.setCell ⟨w.heap.size + 1, j * 2, none⟩ (.string (strN (List.replicate (szN s) 0)))).setCell ⟨w.heap.size + 1, j * 2 + 1, none⟩ (.int .i64 3)).heap.size := by rw [setCell_size, setCell_size]; exact Nat.le_refl _
      have hz6 : wr.heap.size ≤ w6.heap.size := HB6.out.size
      have HRB7 := (HR6.out.set_other (o := j * 2) (.string (strN (List.replicate (szN s) 0))) hne1).set_other (o := j * 2 + 1) (.int .i64 3) hne1
      have HRR7 := ((HRR.out.below HB6.out (by omega)).set_other (g := w.heap.size + 1) (o := j * 2) (.string (strN (List.replicate (szN s) 0))) (by omega)).set_other (g := w.heap.size + 1) (o := j * 2 + 1) (.int .i64 3) (by omega)
      have HFR7 : ∀ o, ((w6.setCell ⟨w.heap.size + 1, j * 2, none⟩ (.string (strN (List.replicate (szN s) 0)))).setCell ⟨w.heap.size + 1, j * 2 + 1, none⟩ (.int .i64 3)).frozen? ⟨w.heap.size, o, none⟩ = false := fun o => by rw [setCell_frozen, setCell_frozen]; exact frozen_below HFR.out HB6.out (by omega) o
      clear b4 b46 q0 q1 fz HS6 hb6 hZ
      go_wp2_with (fail)
      go_roundw
      case rel => exact ⟨j + 1, by omega, by go_num, HB7, Lib.hid HOW7, Lib.hid HRB7, Lib.hid HRR7, Lib.hid HFR7, by omega⟩
      case measure => simp [intOf]; omega
    · obtain rfl : j = N := by omega
      have HO := HOW.out
      rw [fillL_end] at HO
      have x0 := HRB.out 0 _ rfl
      have x1 := HRB.out 1 _ rfl
      have x2 := HRB.out 2 _ rfl
      have x3 := HRB.out 3 _ rfl
      have y0 := HRR.out 0 _ rfl
      have y1 := HRR.out 1 _ rfl
      have y2 := HRR.out 2 _ rfl
      have y3 := HRR.out 3 _ rfl
      have y4 := HRR.out 4 _ rfl
      have f0 := HFR.out 0
      have f1 := HFR.out 1
      have f2 := HFR.out 2
      have f3 := HFR.out 3
      have f4 := HFR.out 4
      have R9 := set5_row HRR.out (.int .i64 c) (.int .i64 h) (.int .i64 p) (.int .i64 s) (.slice (some ⟨w.heap.size + 1, 0, none⟩) j j)
      have v0 := R9 0 _ rfl
      have v1 := R9 1 _ rfl
      have v2 := R9 2 _ rfl
      have v3 := R9 3 _ rfl
      have v4 := R9 4 _ rfl
      have HO9 : SecOwn (w.heap.size + 1) (((((wr.setCell ⟨w.heap.size, 0, none⟩ (.int .i64 c)).setCell ⟨w.heap.size, 1, none⟩ (.int .i64 h)).setCell ⟨w.heap.size, 2, none⟩ (.int .i64 p)).setCell ⟨w.heap.size, 3, none⟩ (.int .i64 s)).setCell ⟨w.heap.size, 4, none⟩ (.slice (some ⟨w.heap.size + 1, 0, none⟩) j j)) (.slice (some ⟨w.heap.size + 1, 0, none⟩) j j) (List.replicate j (zSec (szN s))) := far_set (far_set (far_set (far_set (far_set HO (Nat.lt_succ_self _)) (Nat.lt_succ_self _)) (Nat.lt_succ_self _)) (Nat.lt_succ_self _)) (Nat.lt_succ_self _)
      have HB9 : Below w.heap.size w (((((wr.setCell ⟨w.heap.size, 0, none⟩ (.int .i64 c)).setCell ⟨w.heap.size, 1, none⟩ (.int .i64 h)).setCell ⟨w.heap.size, 2, none⟩ (.int .i64 p)).setCell ⟨w.heap.size, 3, none⟩ (.int .i64 s)).setCell ⟨w.heap.size, 4, none⟩ (.slice (some ⟨w.heap.size + 1, 0, none⟩) j j)) := Below.setCell (Below.setCell (Below.setCell (Below.setCell (Below.setCell hb (Nat.le_refl _) _) (Nat.le_refl _) _) (Nat.le_refl _) _) (Nat.le_refl _) _) (Nat.le_refl _) _
      clear HO
      go_wp2_with (fail)
      generalize (((((wr.setCell ⟨w.heap.size, 0, none⟩ (.int .i64 c)).setCell ⟨w.heap.size, 1, none⟩ (.int .i64 h)).setCell ⟨w.heap.size, 2, none⟩ (.int .i64 p)).setCell ⟨w.heap.size, 3, none⟩ (.int .i64 s)).setCell ⟨w.heap.size, 4, none⟩ (.slice (some ⟨w.heap.size + 1, 0, none⟩) j j)) = W9 at *
      exact bodyPost_ret (v := .agg #[.int .i64 c, .int .i64 h, .int .i64 p, .int .i64 s, .slice (some ⟨w.heap.size + 1, 0, none⟩) j j]) (by simp [results, Tryz.results103, go_sem, v0, v1, v2, v3, v4] <;> rfl) rfl ⟨_, rfl, OwnL.base HO9 (by omega), HB9⟩
end Go.Proofs.YtfcdienphillnaaGreat
namespace Go.Proofs.YtfcdienphillnaaGreat
set_option linter.unusedVariables false
set_option linter.unusedSimpArgs false
open Go.RowKit
theorem own_nb {B g : Nat} {w w' : World} {v : Value} {l : List Sec} (h : SecOwn B w v l) (hg : g < B) : v.ownBlock ≠ some g := fun e => by have := (World.ownsRow.lt h g e).1; omega
theorem grown_cell {w w' : World} {row : Option Nat} {b o : Nat} {u : Value} (hg : w.grownBy w' row) (hb : b < w.heap.size) (hne : row ≠ some b) (h : w.cell? ⟨b, o, none⟩ = some u) : w'.cell? ⟨b, o, none⟩ = some u :=
  (World.cell?_of_block (a := ⟨b, o, none⟩) (hg.block b hb (fun e => hne e.symm))).trans h
theorem grown_row {w w' : World} {row : Option Nat} {b : Nat} {us : List Value} (hg : w.grownBy w' row) (hb : b < w.heap.size) (hne : row ≠ some b) (h : Row w b us) : Row w' b us := fun j u hu => grown_cell hg hb hne (h j u hu)
theorem grown_frozen {w w' : World} {row : Option Nat} {b : Nat} (hg : w.grownBy w' row) (hb : b < w.heap.size) (hne : row ≠ some b) (h : ∀ o, w.frozen? ⟨b, o, none⟩ = false) : ∀ o, w'.frozen? ⟨b, o, none⟩ = false := fun o =>
  (World.frozen?_of_block (a := ⟨b, o, none⟩) (hg.block b hb (fun e => hne e.symm))).trans (h o)
set_option maxRecDepth 20000 in
set_option maxHeartbeats 8000000 in
theorem new_s (c h p s : Int) (T N : Nat) (w : World) (hT : c * h = (T : Int)) (hN : (T : Int) * p = (N : Int)) (hT1 : T ≤ 1048576) (hN1 : N ≤ 1048576) (hs : 0 ≤ s ∧ s ≤ 2) :
    Calls Tryz.prog 97 #[.int .i64 c, .int .i64 h, .int .i64 p, .int .i64 s] w fun r w' => ∃ v', r = .returned (.agg #[.int .i64 c, .int .i64 h, .int .i64 p, .int .i64 s, v']) ∧ SecOwn w.heap.size w' v' (List.replicate N (zSec (szN s))) ∧ Below w.heap.size w w' := by
  obtain ⟨i0, hi, hz0, hz1, hz2⟩ := info_parts secv_info
  have hm := szN_le hs
  obtain ⟨RR0, RB0, FB0, HB0, zz0⟩ := boxes2 w #[.int .i64 0, .int .i64 0, .int .i64 0, .int .i64 0, .slice none 0 0] #[.int .i64 c, .int .i64 h, .int .i64 p, .int .i64 s, .slice none 0 0] 43 43
  have FR0 : ∀ o, ((((w.alloc (.cells #[.int .i64 0, .int .i64 0, .int .i64 0, .int .i64 0, .slice none 0 0] 43))).alloc (.cells #[.int .i64 c, .int .i64 h, .int .i64 p, .int .i64 s, .slice none 0 0] 43))).frozen? ⟨w.heap.size, o, none⟩ = false := fun o => frozen_below (frozen_alloc w _ _) (Below.alloc (Below.refl _ _) (Nat.le_refl _) _) (by simp) o
  go_enter Tryz.func97, Tryz.ntmps97
  go_wp2_with (fail)
  generalize (((w.alloc (.cells #[.int .i64 0, .int .i64 0, .int .i64 0, .int .i64 0, .slice none 0 0] 43))).alloc (.cells #[.int .i64 c, .int .i64 h, .int .i64 p, .int .i64 s, .slice none 0 0] 43)) = w2 at *
  go_loopw [10] (fun ii wr => ∃ (q : Nat) (v : Value), q ≤ N ∧ ii = .int .i64 ((N : Int) - (q : Int)) ∧ Below w.heap.size w wr ∧ Hid (SecOwn (w.heap.size + 2) wr v (List.replicate q (zSec (szN s)))) ∧ Hid (Row wr (w.heap.size + 1) [.int .i64 c, .int .i64 h, .int .i64 p, .int .i64 s, v]) ∧ Hid (∀ o, wr.frozen? ⟨w.heap.size + 1, o, none⟩ = false) ∧ Hid (Row wr w.heap.size [.int .i64 0, .int .i64 0, .int .i64 0, .int .i64 0, .slice none 0 0]) ∧ Hid (∀ o, wr.frozen? ⟨w.heap.size, o, none⟩ = false) ∧ w.heap.size + 2 ≤ wr.heap.size) (fun ii _ => (intOf ii).toNat)
  case atStart => exact ⟨0, .slice none 0 0, by omega, by simp, HB0, Lib.hid OwnL.of_nil, Lib.hid RB0, Lib.hid FB0, Lib.hid RR0, Lib.hid FR0, by omega⟩
  case round =>
    obtain ⟨q, v, hq, rfl, hb, HOW, HRB, HFB, HRR, HFR, hz⟩ := hrel
    have zr := hb.size
    have b4 := HRB.out 4 _ rfl
    by_cases hlt : q < N
    · have hZ := Lib.hid (zeros_s (szN s) wr.drew (by omega))
      have hBY := Lib.hid (fun (w' : World) => bytes_s s w' hs)
      have hd1 : decide ((N : Int) - (q : Int) > 0) = true := decide_eq_true (by omega)
      have hd2 : decide (0 < (N : Int) - (q : Int)) = true := decide_eq_true (by omega)
      have hone : ∀ u ∈ Sec.cells (zSec (szN s)), u.oneCell' = true := by simp [Sec.cells, Value.oneCell']
      have hl1 : (List.replicate q (zSec (szN s))).length + 1 ≤ 16777216 := by rw [List.length_replicate]; omega
      have hd3 : ¬ N ≤ q := by omega
      obtain ⟨M, hM⟩ : ∃ M : Nat, (N : Int) - (q : Int) = (M : Int) := ⟨N - q, by omega⟩
      have hM1 : 1 ≤ M := by omega
      have hM2 : M ≤ 1048576 := by omega
      go_wp2_with (fail)
      go_region_law (first
        | (refine step_appP Sec.cells 2 Sec.len _ (by rfl) _ _ _ (by rfl) (w.heap.size + 2) 70 i0 (.agg #[.string .empty, .int .i64 0]) 24 Tryz.underlying41 hi hz0 hz1 hz2 rfl (by decide) v (List.replicate q (zSec (szN s))) (by rfl) HOa.out _ 1 (zSec (szN s)) (by rfl) HRA.out hone hl1 (by decide) hbase ?_; intro g7 c7 w7 how7 hg7 hat7; have HOW7 := Lib.hid how7; have HR7 := Lib.hid (grown_row hg7 hlb1 hnb1 HRBa.out); have HF7 := Lib.hid (grown_frozen hg7 hlb1 hnb1 HFBa.out); have HRR7 := Lib.hid (grown_row hg7 hlb0 hnb0 HRRa.out); have HFR7 := Lib.hid (grown_frozen hg7 hlb0 hnb0 HFRa.out); have HB7 := Lib.hid (own_grown_below HOa.out HBa.out hg7 hK2 hbase2); have z7 := hg7.size; have t4 := HR7.out 4 _ rfl; have t5 := HF7.out 4; clear how7 hg7)
        | (go_simp; first
          | (go_at_call 116; refine (hBY.out _).mono ?_; rintro r w5 ⟨rfl, rfl⟩)
          | (go_at_call 128; refine hZ.out.mono ?_; rintro r w6 ⟨rfl, hb6⟩; have HB6 := Lib.hid ((Below.refl wr.heap.size wr).drew.trans hb6); have hz6 : wr.heap.size ≤ w6.heap.size := HB6.out.size; have HBS : Below wr.heap.size wr (w6.alloc (.cells #[.string (strN (List.replicate (szN s) 0)), .int .i64 3] 70)) := HB6.out.alloc hz6 _; have HOa := Lib.hid (OwnL.below HOW.out HBS); have HRBa := Lib.hid (HRB.out.below HBS (by omega)); have HFBa := Lib.hid (frozen_below HFB.out HBS (by omega)); have HRRa := Lib.hid (HRR.out.below HBS (by omega)); have HFRa := Lib.hid (frozen_below HFR.out HBS (by omega)); have HBa := Lib.hid (hb.trans (HBS.mono zr)); have HRA := Lib.hid (Row.alloc w6 #[.string (strN (List.replicate (szN s) 0)), .int .i64 3] 70); have hzs : (w6.alloc (.cells #[.string (strN (List.replicate (szN s) 0)), .int .i64 3] 70)).heap.size = w6.heap.size + 1 := (by simp); have hbase : w.heap.size + 2 ≤ (w6.alloc (.cells #[.string (strN (List.replicate (szN s) 0)), .int .i64 3] 70)).heap.size := (by rw [hzs]; omega); have hbase2 : w.heap.size ≤ (w6.alloc (.cells #[.string (strN (List.replicate (szN s) 0)), .int .i64 3] 70)).heap.size := (by rw [hzs]; omega); have hlb1 : w.heap.size + 1 < (w6.alloc (.cells #[.string (strN (List.replicate (szN s) 0)), .int .i64 3] 70)).heap.size := (by rw [hzs]; omega); have hlb0 : w.heap.size < (w6.alloc (.cells #[.string (strN (List.replicate (szN s) 0)), .int .i64 3] 70)).heap.size := (by rw [hzs]; omega); have hnb1 : v.ownBlock ≠ some (w.heap.size + 1) := own_nb (w' := w) HOa.out (by omega); have hnb0 : v.ownBlock ≠ some w.heap.size := own_nb (w' := w) HOa.out (by omega); have hK2 : w.heap.size ≤ w.heap.size + 2 := (by omega); have b46 : w6.cell? ⟨w.heap.size + 1, 4, none⟩ = some v := (HRB.out.below HB6.out (by omega)) 4 _ rfl; have b47 : (w6.alloc (.cells #[.string (strN (List.replicate (szN s) 0)), .int .i64 3] 70)).cell? ⟨w.heap.size + 1, 4, none⟩ = some v := HRBa.out 4 _ rfl; clear hb6; dsimp only)))
      all_goals
        have HO8 := far_set (o := 4) (u := .slice (some ⟨g7, 0, none⟩) (q + 1) c7) HOW7.out (g := w.heap.size + 1) (by omega)
        rw [List.length_replicate] at HO8
        have hrep : List.replicate q (zSec (szN s)) ++ [zSec (szN s)] = List.replicate (q + 1) (zSec (szN s)) := List.replicate_succ'.symm
        rw [hrep] at HO8
        have HR8 := HR7.out.set (o := 4) (.slice (some ⟨g7, 0, none⟩) (q + 1) c7) (by simp)
        have HF8 : ∀ o, (w7.setCell ⟨w.heap.size + 1, 4, none⟩ (.slice (some ⟨g7, 0, none⟩) (q + 1) c7)).frozen? ⟨w.heap.size + 1, o, none⟩ = false := fun o => by rw [setCell_frozen]; exact HF7.out o
        have HRR8 := HRR7.out.set_other (g := w.heap.size + 1) (o := 4) (.slice (some ⟨g7, 0, none⟩) (q + 1) c7) (by omega)
        have HFR8 : ∀ o, (w7.setCell ⟨w.heap.size + 1, 4, none⟩ (.slice (some ⟨g7, 0, none⟩) (q + 1) c7)).frozen? ⟨w.heap.size, o, none⟩ = false := fun o => by rw [setCell_frozen]; exact HFR7.out o
        have HB8 : Below w.heap.size w (w7.setCell ⟨w.heap.size + 1, 4, none⟩ (.slice (some ⟨g7, 0, none⟩) (q + 1) c7)) := Below.setCell HB7.out (by show w.heap.size ≤ w.heap.size + 1; omega) _
        have hz8 : w.heap.size + 2 ≤ (w7.setCell ⟨w.heap.size + 1, 4, none⟩ (.slice (some ⟨g7, 0, none⟩) (q + 1) c7)).heap.size := by rw [setCell_size]; omega
        clear b4 b46 b47 t4 t5
        go_wp2_with (fail)
        go_roundw
        case rel => exact ⟨q + 1, .slice (some ⟨g7, 0, none⟩) (q + 1) c7, by omega, by rw [show ((N : Int) - ((q + 1 : Nat) : Int)) = (M : Int) - 1 by omega], HB8, Lib.hid HO8, Lib.hid HR8, Lib.hid HF8, Lib.hid HRR8, Lib.hid HFR8, hz8⟩
        case measure => simp [intOf]; omega
    · obtain rfl : q = N := by omega
      have HO := HOW.out
      obtain ⟨Av, cv, hv, _⟩ := OwnL.shape HO
      rw [List.length_replicate] at hv
      subst hv
      have b4' := HRB.out 4 _ rfl
      have x0 := HRB.out 0 _ rfl
      have x1 := HRB.out 1 _ rfl
      have x2 := HRB.out 2 _ rfl
      have x3 := HRB.out 3 _ rfl
      have y0 := HRR.out 0 _ rfl
      have y1 := HRR.out 1 _ rfl
      have y2 := HRR.out 2 _ rfl
      have y3 := HRR.out 3 _ rfl
      have y4 := HRR.out 4 _ rfl
      have f0 := HFR.out 0
      have f1 := HFR.out 1
      have f2 := HFR.out 2
      have f3 := HFR.out 3
      have f4 := HFR.out 4
      have R9 := set5_row HRR.out (.int .i64 c) (.int .i64 h) (.int .i64 p) (.int .i64 s) (.slice Av q cv)
      have v0 := R9 0 _ rfl
      have v1 := R9 1 _ rfl
      have v2 := R9 2 _ rfl
      have v3 := R9 3 _ rfl
      have v4 := R9 4 _ rfl
      have HO9 : SecOwn (w.heap.size + 2) (((((wr.setCell ⟨w.heap.size, 0, none⟩ (.int .i64 c)).setCell ⟨w.heap.size, 1, none⟩ (.int .i64 h)).setCell ⟨w.heap.size, 2, none⟩ (.int .i64 p)).setCell ⟨w.heap.size, 3, none⟩ (.int .i64 s)).setCell ⟨w.heap.size, 4, none⟩ (.slice Av q cv)) (.slice Av q cv) (List.replicate q (zSec (szN s))) := far_set (far_set (far_set (far_set (far_set HO (by omega)) (by omega)) (by omega)) (by omega)) (by omega)
      have HB9 : Below w.heap.size w (((((wr.setCell ⟨w.heap.size, 0, none⟩ (.int .i64 c)).setCell ⟨w.heap.size, 1, none⟩ (.int .i64 h)).setCell ⟨w.heap.size, 2, none⟩ (.int .i64 p)).setCell ⟨w.heap.size, 3, none⟩ (.int .i64 s)).setCell ⟨w.heap.size, 4, none⟩ (.slice Av q cv)) := Below.setCell (Below.setCell (Below.setCell (Below.setCell (Below.setCell hb (Nat.le_refl _) _) (Nat.le_refl _) _) (Nat.le_refl _) _) (Nat.le_refl _) _) (Nat.le_refl _) _
      rw [Int.sub_self]
      clear HO b4
      go_wp2_with (fail)
      generalize (((((wr.setCell ⟨w.heap.size, 0, none⟩ (.int .i64 c)).setCell ⟨w.heap.size, 1, none⟩ (.int .i64 h)).setCell ⟨w.heap.size, 2, none⟩ (.int .i64 p)).setCell ⟨w.heap.size, 3, none⟩ (.int .i64 s)).setCell ⟨w.heap.size, 4, none⟩ (.slice Av q cv)) = W9 at *
      exact bodyPost_ret (v := .agg #[.int .i64 c, .int .i64 h, .int .i64 p, .int .i64 s, .slice Av q cv]) (by simp [results, Tryz.results97, go_sem, v0, v1, v2, v3, v4] <;> rfl) rfl ⟨_, rfl, OwnL.base HO9 (by omega), HB9⟩
end Go.Proofs.YtfcdienphillnaaGreat
