/- FirstBroken, ValidLedger, Clone and JoinLedgers over slices that begin anywhere. Printed by gen_jno.py. -/
import Derived.Test.YtkpjjohanbiagaaDoorJoin
import Derived.Test.YtkpjjohanbiagaaDoorAppAt
namespace Go.Proofs.YtkpjjohanbiagaaDoor
set_option linter.unusedVariables false
set_option linter.unusedSimpArgs false
open Go.RowKit
def EntSo (w : World) (b o : Nat) (l : List Ent) : Prop := b < w.heap.size ∧ ∀ k e, l[k]? = some e → w.cell? ⟨b, o + k * 4, none⟩ = some (.string e.verb) ∧ w.cell? ⟨b, o + k * 4 + 1, none⟩ = some (.int .i64 e.before) ∧ w.cell? ⟨b, o + k * 4 + 2, none⟩ = some (.int .i64 e.after) ∧ w.cell? ⟨b, o + k * 4 + 3, none⟩ = some (.int .i64 e.chain)
theorem EntSo.below {w w' : World} {b o B : Nat} {l : List Ent} (h : EntSo w b o l) (hb : Below B w w') (hB : b < B) : EntSo w' b o l :=
  ⟨Nat.lt_of_lt_of_le h.1 hb.size, fun k e he => by
    obtain ⟨h0, h1, h2, h3⟩ := h.2 k e he
    exact ⟨(hb.cell (p := ⟨b, _, none⟩) hB).trans h0, (hb.cell (p := ⟨b, _, none⟩) hB).trans h1, (hb.cell (p := ⟨b, _, none⟩) hB).trans h2, (hb.cell (p := ⟨b, _, none⟩) hB).trans h3⟩⟩
/-- a slice of entries that begins anywhere -/
def EntO (w : World) (v : Value) (l : List Ent) : Prop := ∃ A c, v = .slice A l.length c ∧ (A = none ∨ ∃ g o, A = some ⟨g, o, none⟩) ∧ (l = [] ∨ ∃ g o, A = some ⟨g, o, none⟩ ∧ EntSo w g o l)
theorem EntO.below {w w' : World} {v : Value} {l : List Ent} (h : EntO w v l) (hb : Below w.heap.size w w') : EntO w' v l := by
  obtain ⟨A, c, rfl, h0, h⟩ := h
  refine ⟨A, c, rfl, h0, ?_⟩
  rcases h with h | ⟨g, o, rfl, h⟩
  · exact .inl h
  · exact .inr ⟨g, o, rfl, h.below hb h.1⟩
theorem EntO.of {B : Nat} {w : World} {v : Value} {l : List Ent} (h : EntL B w v l) : EntO w v l := by
  have h0 : ∃ A n c, v = .slice A n c ∧ (A = none ∨ ∃ g o, A = some ⟨g, o, none⟩) := by
    rcases h.2 with ⟨rfl, _⟩ | ⟨g, cap, cur, rfl, _⟩
    · exact ⟨_, _, _, rfl, .inl rfl⟩
    · exact ⟨_, _, _, rfl, .inr ⟨_, _, rfl⟩⟩
  obtain ⟨A, c, rfl, hA⟩ := h.shape
  obtain ⟨A', n', c', e1, h0⟩ := h0
  injection e1 with e1 _ _
  subst e1
  refine ⟨A, c, rfl, h0, ?_⟩
  rcases hA with hA | ⟨g, rfl, _, hg⟩
  · exact .inl hA
  · refine .inr ⟨g, 0, rfl, ?_⟩
    obtain ⟨h1, h2⟩ := EntS.of h hg
    exact ⟨h1, fun k e he => by simpa using h2 k e he⟩
set_option maxHeartbeats 1000000 in
theorem broken_io (b o n c : Nat) (l : List Ent) (w : World) (hl : l.length = n) (hn : n ≤ 1048576) (hs : EntSo w b o l) (hv : ∀ e ∈ l, e.verb.size ≤ 1048576) :
    Calls Tryd.prog 21 #[.slice (some ⟨b, o, none⟩) n c] w fun e w' => e = .returned (.int .i64 (broken 0 0 0 l)) ∧ Below w.heap.size w w' := by
  go_enter Tryd.func21, Tryd.ntmps21
  go_wp2
  go_loopw [8] (fun i wr => ∃ (k : Nat) (lv : ByteArray) (lb la lc : Int), k ≤ n ∧ i = .int .i64 k ∧ (0 ≤ lc ∧ lc ≤ 65535) ∧ Below w.heap.size w wr ∧ w.heap.size < wr.heap.size ∧ wr.heap[w.heap.size]? = some (.cells #[.string lv, .int .i64 lb, .int .i64 la, .int .i64 lc] 48 (0, 0)) ∧
    Hid (broken 0 0 0 l = broken k lc la (l.drop k))) (fun i _ => n - (intOf i).toNat)
  case atStart => exact ⟨0, _, 0, 0, 0, by omega, rfl, by omega, (by repeat (first | exact Below.refl _ _ | refine Below.alloc ?_ (by first | omega | (simp; done) | (simp; omega)) _ | apply Below.drew | apply below_drewN | refine Below.setCell ?_ (by first | omega | (simp; done) | (simp; omega)) _ | refine Below.trans ?_ (Below.mono (by assumption) (by first | omega | (simp; done) | (simp; omega))))), by simp, heap_alloc_new w _, Lib.hid rfl⟩
  case round =>
    obtain ⟨k, lv, lb, la, lc, hk, rfl, hlc, hb, hz, hh, HK⟩ := hrel
    by_cases hlt : k < n
    · obtain ⟨e, he⟩ : ∃ e, l[k]? = some e := ⟨l[k]'(by omega), List.getElem?_eq_getElem (by omega)⟩
      have hve := hv e (List.mem_of_getElem? he)
      obtain ⟨c0, c1, c2, c3⟩ := (hs.below hb hs.1).2 k e he
      have d2 : wr.cell? ⟨w.heap.size, 2, none⟩ = some (.int .i64 la) := by rw [cell_of_row _ _ _ _ _ _ hh]; rfl
      have d3 : wr.cell? ⟨w.heap.size, 3, none⟩ = some (.int .i64 lc) := by rw [cell_of_row _ _ _ _ _ _ hh]; rfl
      have e0 : ∀ x : Wb (wr.alloc (.cells #[.string e.verb, .int .i64 e.before, .int .i64 e.after, .int .i64 e.chain] 48)), x.1.cell? ⟨wr.heap.size, 0, none⟩ = some (.string e.verb) := fun x => Wb.cell (by simp) x
      have e1 : ∀ x : Wb (wr.alloc (.cells #[.string e.verb, .int .i64 e.before, .int .i64 e.after, .int .i64 e.chain] 48)), x.1.cell? ⟨wr.heap.size, 1, none⟩ = some (.int .i64 e.before) := fun x => Wb.cell (by simp) x
      have e2 : ∀ x : Wb (wr.alloc (.cells #[.string e.verb, .int .i64 e.before, .int .i64 e.after, .int .i64 e.chain] 48)), x.1.cell? ⟨wr.heap.size, 2, none⟩ = some (.int .i64 e.after) := fun x => Wb.cell (by simp) x
      have e3 : ∀ x : Wb (wr.alloc (.cells #[.string e.verb, .int .i64 e.before, .int .i64 e.after, .int .i64 e.chain] 48)), x.1.cell? ⟨wr.heap.size, 3, none⟩ = some (.int .i64 e.chain) := fun x => Wb.cell (by simp) x
      have e4 : ∀ x : Wb (wr.alloc (.cells #[.string e.verb, .int .i64 e.before, .int .i64 e.after, .int .i64 e.chain] 48)), x.1.cell? ⟨w.heap.size, 3, none⟩ = some (.int .i64 lc) := fun x => Wb.cell ((World.cell?_alloc_lt wr _ ⟨w.heap.size, 3, none⟩ hz).trans d3) x
      go_wp2
      rcases ent_cases k lc la e with ⟨f1, H⟩ | ⟨f1, f2, H⟩ | ⟨f1, f2, f3, H⟩ | ⟨f1, f2, f3, f4, H⟩ | ⟨f1, f2, f3, f4, f5, H⟩ | ⟨f1, f2, f3, f4, f5, hlast⟩
      all_goals
        refine wp_region_wb (by kernel_rfl) (by kernel_rfl) ?_
        repeat (go_big_quiet_step (first
          | (go_at_call 46; exact Wb.same (verb_i _ _ hve))
          | (go_at_call 53; exact Wb.same (isWord_i _ _))
          | (go_at_call 54; exact Wb.calls (chainI_i _ _ _ _ _ _ hlc hve (inB_yes f3) (inB_yes f4)))))
        refine wpQuiet_nil ?_; intro w1 hw'; obtain ⟨⟨w2, hb1⟩, hw''⟩ := hw'; subst hw''
      · go_wp2
        go_ret
        exact ⟨ret_int (broken_stop he HK H).symm, (by repeat (first | exact Below.refl _ _ | refine Below.alloc ?_ (by first | omega | (simp; done) | (simp; omega)) _ | apply Below.drew | apply below_drewN | refine Below.setCell ?_ (by first | omega | (simp; done) | (simp; omega)) _ | refine Below.trans ?_ (Below.mono (by assumption) (by first | omega | (simp; done) | (simp; omega)))))⟩
      · go_wp2
        go_ret
        exact ⟨ret_int (broken_stop he HK H).symm, (by repeat (first | exact Below.refl _ _ | refine Below.alloc ?_ (by first | omega | (simp; done) | (simp; omega)) _ | apply Below.drew | apply below_drewN | refine Below.setCell ?_ (by first | omega | (simp; done) | (simp; omega)) _ | refine Below.trans ?_ (Below.mono (by assumption) (by first | omega | (simp; done) | (simp; omega)))))⟩
      · go_wp2
        go_ret
        exact ⟨ret_int (broken_stop he HK H).symm, (by repeat (first | exact Below.refl _ _ | refine Below.alloc ?_ (by first | omega | (simp; done) | (simp; omega)) _ | apply Below.drew | apply below_drewN | refine Below.setCell ?_ (by first | omega | (simp; done) | (simp; omega)) _ | refine Below.trans ?_ (Below.mono (by assumption) (by first | omega | (simp; done) | (simp; omega)))))⟩
      · go_wp2
        go_ret
        exact ⟨ret_int (broken_stop he HK H).symm, (by repeat (first | exact Below.refl _ _ | refine Below.alloc ?_ (by first | omega | (simp; done) | (simp; omega)) _ | apply Below.drew | apply below_drewN | refine Below.setCell ?_ (by first | omega | (simp; done) | (simp; omega)) _ | refine Below.trans ?_ (Below.mono (by assumption) (by first | omega | (simp; done) | (simp; omega)))))⟩
      · go_wp2
        go_ret
        exact ⟨ret_int (broken_stop he HK H).symm, (by repeat (first | exact Below.refl _ _ | refine Below.alloc ?_ (by first | omega | (simp; done) | (simp; omega)) _ | apply Below.drew | apply below_drewN | refine Below.setCell ?_ (by first | omega | (simp; done) | (simp; omega)) _ | refine Below.trans ?_ (Below.mono (by assumption) (by first | omega | (simp; done) | (simp; omega)))))⟩
      have hh1 : w1.heap[w.heap.size]? = some (.cells #[.string lv, .int .i64 lb, .int .i64 la, .int .i64 lc] 48 (0, 0)) := by
        rw [hb1.block _ (by simp; omega)]; exact (Below.heap_alloc _ _ _ hz).trans hh
      have g2 : w1.cell? ⟨w.heap.size, 2, none⟩ = some (.int .i64 la) := by rw [cell_of_row _ _ _ _ _ _ hh1]; rfl
      have k0 := e0 ⟨w1, hb1⟩
      have k1 := e1 ⟨w1, hb1⟩
      have k2 := e2 ⟨w1, hb1⟩
      have k3 := e3 ⟨w1, hb1⟩
      have z0 : ∀ j, w1.frozen? ⟨w.heap.size, j, none⟩ = false := fun j => frozen_of_row w1 w.heap.size j _ _ hh1
      have j0 : w1.cell? ⟨w.heap.size, 0, none⟩ = some (.string lv) := by rw [cell_of_row _ _ _ _ _ _ hh1]; rfl
      have j1 : w1.cell? ⟨w.heap.size, 1, none⟩ = some (.int .i64 lb) := by rw [cell_of_row _ _ _ _ _ _ hh1]; rfl
      have j3 : w1.cell? ⟨w.heap.size, 3, none⟩ = some (.int .i64 lc) := by rw [cell_of_row _ _ _ _ _ _ hh1]; rfl
      simp only [] at k0 k1 k2 k3
      clear e0 e1 e2 e3 e4
      have hz1 : w.heap.size < w1.heap.size := by have := hb1.size; simp at this; omega
      have hch : 0 ≤ e.chain ∧ e.chain ≤ 65535 := by have h5 : e.chain = chainI lc e.verb e.before e.after := (by simpa using f5); rw [h5]; exact chainI_bd _ _ _ _
      rcases hlast with ⟨q0, q1, H⟩ | ⟨q0, q1, H⟩ | ⟨rfl, H⟩
      · go_wp2
        go_ret
        exact ⟨ret_int (broken_stop he HK H).symm, (by repeat (first | exact Below.refl _ _ | refine Below.alloc ?_ (by first | omega | (simp; done) | (simp; omega)) _ | apply Below.drew | apply below_drewN | refine Below.setCell ?_ (by first | omega | (simp; done) | (simp; omega)) _ | refine Below.trans ?_ (Below.mono (by assumption) (by first | omega | (simp; done) | (simp; omega)))))⟩
      · go_wp2
        go_roundw
        case rel => exact ⟨k + 1, e.verb, e.before, e.after, e.chain, by omega, by go_num, hch, (by repeat (first | exact Below.refl _ _ | refine Below.alloc ?_ (by first | omega | (simp; done) | (simp; omega)) _ | apply Below.drew | apply below_drewN | refine Below.setCell ?_ (by first | omega | (simp; done) | (simp; omega)) _ | refine Below.trans ?_ (Below.mono (by assumption) (by first | omega | (simp; done) | (simp; omega))))), by simp; omega, heap_setCell_same _ _ 3 _ _ _ (heap_setCell_same _ _ 2 _ _ _ (heap_setCell_same _ _ 1 _ _ _ (heap_setCell_same _ _ 0 _ _ _ hh1))), broken_on he HK H⟩
        case measure => simp [intOf]; omega
      · go_wp2
        go_roundw
        case rel => exact ⟨0 + 1, e.verb, e.before, e.after, e.chain, by omega, rfl, hch, (by repeat (first | exact Below.refl _ _ | refine Below.alloc ?_ (by first | omega | (simp; done) | (simp; omega)) _ | apply Below.drew | apply below_drewN | refine Below.setCell ?_ (by first | omega | (simp; done) | (simp; omega)) _ | refine Below.trans ?_ (Below.mono (by assumption) (by first | omega | (simp; done) | (simp; omega))))), by simp; omega, heap_setCell_same _ _ 3 _ _ _ (heap_setCell_same _ _ 2 _ _ _ (heap_setCell_same _ _ 1 _ _ _ (heap_setCell_same _ _ 0 _ _ _ hh1))), broken_on he HK H⟩
        case measure => simp [intOf]; omega
    · go_wp2
      go_ret
      exact ⟨ret_int (broken_end (by omega) HK).symm, (by repeat (first | exact Below.refl _ _ | refine Below.alloc ?_ (by first | omega | (simp; done) | (simp; omega)) _ | apply Below.drew | apply below_drewN | refine Below.setCell ?_ (by first | omega | (simp; done) | (simp; omega)) _ | refine Below.trans ?_ (Below.mono (by assumption) (by first | omega | (simp; done) | (simp; omega)))))⟩


theorem brokenO_i (v : Value) (l : List Ent) (w : World) (hn : l.length ≤ 1048576) (h : EntO w v l) (hv : ∀ e ∈ l, e.verb.size ≤ 1048576) :
    Calls Tryd.prog 21 #[v] w fun e w' => e = .returned (.int .i64 (broken 0 0 0 l)) ∧ Below w.heap.size w w' := by
  obtain ⟨A, c, rfl, _, hA⟩ := h
  rcases hA with rfl | ⟨g, o, rfl, hg⟩
  · go_enter Tryd.func21, Tryd.ntmps21
    go_wp2
    refine wp_loop_once ?_
    go_wp2
    go_ret
    exact ⟨rfl, (by repeat (first | exact Below.refl _ _ | refine Below.alloc ?_ (by first | omega | (simp; done) | (simp; omega)) _ | apply Below.drew | apply below_drewN | refine Below.setCell ?_ (by first | omega | (simp; done) | (simp; omega)) _ | refine Below.trans ?_ (Below.mono (by assumption) (by first | omega | (simp; done) | (simp; omega)))))⟩
  · exact broken_io g o l.length c l w rfl hn hg hv
theorem valid_io (v : Value) (l : List Ent) (w : World) (hn : l.length ≤ 1048576) (h : EntO w v l) (hv : ∀ e ∈ l, e.verb.size ≤ 1048576) :
    Calls Tryd.prog 20 #[v] w fun e w' => e = .returned (.bool (ledgerOk l)) ∧ Below w.heap.size w w' := by
  go_enter Tryd.func20, Tryd.ntmps20
  go_wp2_with (go_at_call 21; refine (brokenO_i v l w hn h hv).mono ?_; rintro e w1 ⟨rfl, hb1⟩)
  go_ret
  exact ⟨rfl, (by repeat (first | exact Below.refl _ _ | refine Below.alloc ?_ (by first | omega | (simp; done) | (simp; omega)) _ | apply Below.drew | apply below_drewN | refine Below.setCell ?_ (by first | omega | (simp; done) | (simp; omega)) _ | refine Below.trans ?_ (Below.mono (by assumption) (by first | omega | (simp; done) | (simp; omega)))))⟩
theorem ent_cells {w : World} {g o k j : Nat} {l : List Ent} {e : Ent} {u : Value} (h : EntSo w g o l) (he : l[k]? = some e) (hu : e.cells[j]? = some u) : w.cell? ⟨g, o + (k * 4 + j), none⟩ = some u := by
  obtain ⟨h0, h1, h2, h3⟩ := h.2 k e he
  match j, hu with
  | 0, hu => simp [Ent.cells] at hu; subst hu; exact h0
  | 1, hu => simp [Ent.cells] at hu; subst hu; exact h1
  | 2, hu => simp [Ent.cells] at hu; subst hu; exact h2
  | 3, hu => simp [Ent.cells] at hu; subst hu; exact h3
  | j + 4, hu => simp [Ent.cells] at hu
set_option maxHeartbeats 1000000 in
theorem clone_o (v : Value) (l : List Ent) (w : World) (h : EntO w v l) (hn : l.length ≤ 4096) :
    Calls Tryd.prog 49 #[v] w fun e w' => RetL Ent.cells 4 48 w l e w' := by
  obtain ⟨i0, hi, hz0, hz1, hz2⟩ := info_parts Ent.info
  have hnil := fun (w : World) (a : Option Addr) (n c n' c' : Nat) => Lib.run_eql_slice_nil (P := Tryd.prog) w 30 48 a n c n' c' Tryd.underlying30
  obtain ⟨A, c, rfl, hA0, hA⟩ := h
  have hc0 := OwnL.of_empty (f := Ent.cells) (z := 4) (α := Ent) (e := 48) (B := w.heap.size) w (Nat.le_refl _)
  by_cases h0 : l = []
  · subst h0
    rcases hA0 with rfl | ⟨g, o, rfl⟩
    · go_enter Tryd.func49, Tryd.ntmps49
      go_wp2
      go_ret
      exact ⟨_, rfl, OwnL.of_nil, (by repeat (first | exact Below.refl _ _ | refine Below.alloc ?_ (by first | omega | (simp; done) | (simp; omega)) _ | apply Below.drew | apply below_drewN | refine Below.setCell ?_ (by first | omega | (simp; done) | (simp; omega)) _ | refine Below.trans ?_ (Below.mono (by assumption) (by first | omega | (simp; done) | (simp; omega)))))⟩
    · go_enter Tryd.func49, Tryd.ntmps49
      go_wp2_with (at_builtin; refine wpList_appSub Ent.cells 4 Ent.len _ rfl _ _ _ rfl w.heap.size 48 i0 (.agg #[.string .empty, .int .i64 0, .int .i64 0, .int .i64 0]) 40 Tryd.underlying30 hi hz0 hz1 hz2 rfl (by omega) _ [] rfl hc0 g o 0 c [] rfl rfl ?_ ent_one (by simp) (by omega) (by simp) ?_; (· intro k b j u hk hu; simp at hk); intro v' w2 how2 hg2 _)
      go_ret
      exact ⟨_, rfl, by simpa using how2, own_grown_below hc0 (by repeat (first | exact Below.refl _ _ | refine Below.alloc ?_ (by first | omega | (simp; done) | (simp; omega)) _ | apply Below.drew | apply below_drewN | refine Below.setCell ?_ (by first | omega | (simp; done) | (simp; omega)) _ | refine Below.trans ?_ (Below.mono (by assumption) (by first | omega | (simp; done) | (simp; omega))))) hg2 (Nat.le_refl _) (by first | omega | (simp; done) | (simp; omega))⟩
  · obtain ⟨g, o, rfl, hg⟩ := hA.resolve_left h0
    have HG := Lib.hid hg
    have hw1 : Below w.heap.size w (w.alloc (.cells #[] 48)) := Below.alloc (Below.refl _ _) (Nat.le_refl _) _
    go_enter Tryd.func49, Tryd.ntmps49
    go_wp2_with (at_builtin; refine wpList_appSub Ent.cells 4 Ent.len _ rfl _ _ _ rfl w.heap.size 48 i0 (.agg #[.string .empty, .int .i64 0, .int .i64 0, .int .i64 0]) 40 Tryd.underlying30 hi hz0 hz1 hz2 rfl (by omega) _ [] rfl hc0 g o l.length c l rfl rfl ?_ ent_one (by simp; omega) (by omega) (by simp) ?_; (· intro k b j u hk hu; exact ent_cells (HG.out.below hw1 HG.out.1) hk hu); intro v' w2 how2 hg2 _)
    go_ret
    exact ⟨_, rfl, by simpa using how2, own_grown_below hc0 (by repeat (first | exact Below.refl _ _ | refine Below.alloc ?_ (by first | omega | (simp; done) | (simp; omega)) _ | apply Below.drew | apply below_drewN | refine Below.setCell ?_ (by first | omega | (simp; done) | (simp; omega)) _ | refine Below.trans ?_ (Below.mono (by assumption) (by first | omega | (simp; done) | (simp; omega))))) hg2 (Nat.le_refl _) (by first | omega | (simp; done) | (simp; omega))⟩
end Go.Proofs.YtkpjjohanbiagaaDoor
