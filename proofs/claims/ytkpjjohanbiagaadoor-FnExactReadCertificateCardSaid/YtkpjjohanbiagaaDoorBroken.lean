/- FirstBroken and ValidLedger, impl and spec: the walks. -/
import Derived.Test.YtkpjjohanbiagaaDoorChain
namespace Go.Proofs.YtkpjjohanbiagaaDoor
set_option linter.unusedVariables false
set_option linter.unusedSimpArgs false
open Go.RowKit

def entOk (i : Nat) (last : Int) (prev : Int) (e : Ent) : Bool :=
  decide (i < 30) && verbOk e.verb.data.toList && inB e.before 0 65535 && inB e.after 0 65535 && (e.chain == chainI last e.verb e.before e.after) && (i == 0 || e.before == prev)
def broken (i : Nat) (last : Int) (prev : Int) : List Ent → Int
  | [] => -1
  | e :: r => if entOk i last prev e then broken (i + 1) e.chain e.after r else i
theorem drop_cons {α : Type} {l : List α} {k : Nat} {e : α} (he : l[k]? = some e) : l.drop k = e :: l.drop (k + 1) := by
  obtain ⟨h, rfl⟩ := List.getElem?_eq_some_iff.1 he
  exact List.drop_eq_getElem_cons h
theorem broken_stop {l : List Ent} {k : Nat} {e : Ent} {last prev : Int} (he : l[k]? = some e) (HK : Hid (broken 0 0 0 l = broken k last prev (l.drop k))) (H : Hid (entOk k last prev e = false)) : broken 0 0 0 l = k := by
  rw [HK.out, drop_cons he, broken, H.out]; simp
theorem broken_on {l : List Ent} {k : Nat} {e : Ent} {last prev : Int} (he : l[k]? = some e) (HK : Hid (broken 0 0 0 l = broken k last prev (l.drop k))) (H : Hid (entOk k last prev e = true)) : Hid (broken 0 0 0 l = broken (k + 1) e.chain e.after (l.drop (k + 1))) :=
  Lib.hid (by rw [HK.out, drop_cons he, broken, H.out]; simp)
theorem broken_end {l : List Ent} {k : Nat} {last prev : Int} (hk : l.length ≤ k) (HK : Hid (broken 0 0 0 l = broken k last prev (l.drop k))) : broken 0 0 0 l = -1 := by
  rw [HK.out, List.drop_of_length_le hk, broken]
theorem ent_cases (k : Nat) (last prev : Int) (e : Ent) :
    (decide ((30 : Int) ≤ (k : Int)) = true ∧ Hid (entOk k last prev e = false)) ∨
    (decide ((30 : Int) ≤ (k : Int)) = false ∧ verbOk e.verb.data.toList = false ∧ Hid (entOk k last prev e = false)) ∨
    (decide ((30 : Int) ≤ (k : Int)) = false ∧ verbOk e.verb.data.toList = true ∧ inB e.before 0 65535 = false ∧ Hid (entOk k last prev e = false)) ∨
    (decide ((30 : Int) ≤ (k : Int)) = false ∧ verbOk e.verb.data.toList = true ∧ inB e.before 0 65535 = true ∧ inB e.after 0 65535 = false ∧ Hid (entOk k last prev e = false)) ∨
    (decide ((30 : Int) ≤ (k : Int)) = false ∧ verbOk e.verb.data.toList = true ∧ inB e.before 0 65535 = true ∧ inB e.after 0 65535 = true ∧ (e.chain != chainI last e.verb e.before e.after) = true ∧ Hid (entOk k last prev e = false)) ∨
    (decide ((30 : Int) ≤ (k : Int)) = false ∧ verbOk e.verb.data.toList = true ∧ inB e.before 0 65535 = true ∧ inB e.after 0 65535 = true ∧ (e.chain != chainI last e.verb e.before e.after) = false ∧
      ((0 < k ∧ (e.before != prev) = true ∧ Hid (entOk k last prev e = false)) ∨ (0 < k ∧ (e.before != prev) = false ∧ Hid (entOk k last prev e = true)) ∨ (k = 0 ∧ Hid (entOk k last prev e = true)))) := by
  by_cases h1 : 30 ≤ k
  · exact .inl ⟨by simp; omega, Lib.hid (by simp [entOk]; omega)⟩
  · have h1' : decide ((30 : Int) ≤ (k : Int)) = false := by simp; omega
    cases h2 : verbOk e.verb.data.toList
    · exact .inr (.inl ⟨h1', rfl, Lib.hid (by simp [entOk, h2])⟩)
    · cases h3 : inB e.before 0 65535
      · exact .inr (.inr (.inl ⟨h1', rfl, rfl, Lib.hid (by simp [entOk, h3])⟩))
      · cases h4 : inB e.after 0 65535
        · exact .inr (.inr (.inr (.inl ⟨h1', rfl, rfl, rfl, Lib.hid (by simp [entOk, h4])⟩)))
        · cases h5 : e.chain != chainI last e.verb e.before e.after
          · refine .inr (.inr (.inr (.inr (.inr ⟨h1', rfl, rfl, rfl, rfl, ?_⟩))))
            have h5' : (e.chain == chainI last e.verb e.before e.after) = true := by simpa using h5
            by_cases h6 : k = 0
            · exact .inr (.inr ⟨h6, Lib.hid (by simp [entOk, h2, h3, h4, h5', h6])⟩)
            · cases h7 : e.before != prev
              · exact .inr (.inl ⟨by omega, rfl, Lib.hid (by have h7' : (e.before == prev) = true := (by simpa using h7); simp [entOk, h2, h3, h4, h5', h7']; omega)⟩)
              · exact .inl ⟨by omega, rfl, Lib.hid (by have h7' : (e.before == prev) = false := (by simpa using h7); simp [entOk, h7']; omega)⟩
          · have h5' : (e.chain == chainI last e.verb e.before e.after) = false := by simpa using h5
            exact .inr (.inr (.inr (.inr (.inl ⟨h1', rfl, rfl, rfl, rfl, Lib.hid (by simp [entOk, h5'])⟩))))

/-- a slice that holds entries, at the head of block b -/
def EntS (w : World) (b : Nat) (l : List Ent) : Prop := b < w.heap.size ∧ ∀ k e, l[k]? = some e → w.cell? ⟨b, k * 4, none⟩ = some (.string e.verb) ∧ w.cell? ⟨b, k * 4 + 1, none⟩ = some (.int .i64 e.before) ∧ w.cell? ⟨b, k * 4 + 2, none⟩ = some (.int .i64 e.after) ∧ w.cell? ⟨b, k * 4 + 3, none⟩ = some (.int .i64 e.chain)
theorem EntS.below {w w' : World} {b B : Nat} {l : List Ent} (h : EntS w b l) (hb : Below B w w') (hB : b < B) : EntS w' b l :=
  ⟨Nat.lt_of_lt_of_le h.1 hb.size, fun k e he => by
    obtain ⟨h0, h1, h2, h3⟩ := h.2 k e he
    exact ⟨(hb.cell (p := ⟨b, _, none⟩) hB).trans h0, (hb.cell (p := ⟨b, _, none⟩) hB).trans h1, (hb.cell (p := ⟨b, _, none⟩) hB).trans h2, (hb.cell (p := ⟨b, _, none⟩) hB).trans h3⟩⟩

set_option maxHeartbeats 1000000 in
theorem broken_i (b n c : Nat) (l : List Ent) (w : World) (hl : l.length = n) (hn : n ≤ 1048576) (hs : EntS w b l) (hv : ∀ e ∈ l, e.verb.size ≤ 1048576) :
    Calls Tryd.prog 21 #[.slice (some ⟨b, 0, none⟩) n c] w fun e w' => e = .returned (.int .i64 (broken 0 0 0 l)) ∧ Below w.heap.size w w' := by
  go_enter Tryd.func21, Tryd.ntmps21
  go_wp2
  go_loopw [8] (fun i wr => ∃ (k : Nat) (lv : ByteArray) (lb la lc : Int), k ≤ n ∧ i = .int .i64 k ∧ (0 ≤ lc ∧ lc ≤ 65535) ∧ Below w.heap.size w wr ∧ w.heap.size < wr.heap.size ∧ wr.heap[w.heap.size]? = some (.cells #[.string lv, .int .i64 lb, .int .i64 la, .int .i64 lc] 48 (0, 0)) ∧
    Hid (broken 0 0 0 l = broken k lc la (l.drop k))) (fun i _ => n - (intOf i).toNat)
  case atStart => exact ⟨0, _, 0, 0, 0, by omega, rfl, by omega, (by repeat (first | exact Below.refl _ _ | refine Below.alloc ?_ (by first | omega | (simp; done) | (simp; omega)) _ | apply Below.drew | apply below_drewN | refine Below.setCell ?_ (by first | omega | (simp; done) | (simp; omega)) _ | refine Below.trans ?_ (Below.mono (by assumption) (by first | omega | (simp; done) | (simp; omega))))), by simp, heap_alloc_new w _, Lib.hid rfl⟩
  case round =>
    obtain ⟨k, lv, lb, la, lc, hk, rfl, hlc, hb, hz, hh, HK⟩ := hrel
    by_cases hlt : k < n
    · obtain ⟨e, he⟩ : ∃ e, l[k]? = some e := ⟨l[k]'(by omega), List.getElem?_eq_getElem (by omega)⟩
      have hve := hv e (List.mem_of_getElem? he)
      obtain ⟨c0, c1, c2, c3⟩ := (hs.below hb hs.1).2 k e he
      have d2 : wr.cell? ⟨w.heap.size, 2, none⟩ = some (.int .i64 la) := by rw [cell_of_row _ _ _ _ _ _ hh]; rfl
      have d3 : wr.cell? ⟨w.heap.size, 3, none⟩ = some (.int .i64 lc) := by rw [cell_of_row _ _ _ _ _ _ hh]; rfl
      have e0 : ∀ x : Wb (wr.alloc (.cells #[.string e.verb, .int .i64 e.before, .int .i64 e.after, .int .i64 e.chain] 48)), x.1.cell? ⟨wr.heap.size, 0, none⟩ = some (.string e.verb) := fun x => Wb.cell (by simp) x
      have e1 : ∀ x : Wb (wr.alloc (.cells #[.string e.verb, .int .i64 e.before, .int .i64 e.after, .int .i64 e.chain] 48)), x.1.cell? ⟨wr.heap.size, 1, none⟩ = some (.int .i64 e.before) := fun x => Wb.cell (by simp) x
      have e2 : ∀ x : Wb (wr.alloc (.cells #[.string e.verb, .int .i64 e.before, .int .i64 e.after, .int .i64 e.chain] 48)), x.1.cell? ⟨wr.heap.size, 2, none⟩ = some (.int .i64 e.after) := fun x => Wb.cell (by simp) x
      have e3 : ∀ x : Wb (wr.alloc (.cells #[.string e.verb, .int .i64 e.before, .int .i64 e.after, .int .i64 e.chain] 48)), x.1.cell? ⟨wr.heap.size, 3, none⟩ = some (.int .i64 e.chain) := fun x => Wb.cell (by simp) x
      have e4 : ∀ x : Wb (wr.alloc (.cells #[.string e.verb, .int .i64 e.before, .int .i64 e.after, .int .i64 e.chain] 48)), x.1.cell? ⟨w.heap.size, 3, none⟩ = some (.int .i64 lc) := fun x => Wb.cell ((World.cell?_alloc_lt wr _ ⟨w.heap.size, 3, none⟩ hz).trans d3) x
      go_wp2
      rcases ent_cases k lc la e with ⟨f1, H⟩ | ⟨f1, f2, H⟩ | ⟨f1, f2, f3, H⟩ | ⟨f1, f2, f3, f4, H⟩ | ⟨f1, f2, f3, f4, f5, H⟩ | ⟨f1, f2, f3, f4, f5, hlast⟩
      all_goals
        refine wp_region_wb (by kernel_rfl) (by kernel_rfl) ?_
        repeat (go_big_quiet_step (first
          | (go_at_call 46; exact Wb.same (verb_i _ _ hve))
          | (go_at_call 53; exact Wb.same (isWord_i _ _))
          | (go_at_call 54; exact Wb.calls (chainI_i _ _ _ _ _ _ hlc hve (inB_yes f3) (inB_yes f4)))))
        refine wpQuiet_nil ?_; intro w1 hw'; obtain ⟨⟨w2, hb1⟩, hw''⟩ := hw'; subst hw''
      · go_wp2
        go_ret
        exact ⟨ret_int (broken_stop he HK H).symm, (by repeat (first | exact Below.refl _ _ | refine Below.alloc ?_ (by first | omega | (simp; done) | (simp; omega)) _ | apply Below.drew | apply below_drewN | refine Below.setCell ?_ (by first | omega | (simp; done) | (simp; omega)) _ | refine Below.trans ?_ (Below.mono (by assumption) (by first | omega | (simp; done) | (simp; omega)))))⟩
      · go_wp2
        go_ret
        exact ⟨ret_int (broken_stop he HK H).symm, (by repeat (first | exact Below.refl _ _ | refine Below.alloc ?_ (by first | omega | (simp; done) | (simp; omega)) _ | apply Below.drew | apply below_drewN | refine Below.setCell ?_ (by first | omega | (simp; done) | (simp; omega)) _ | refine Below.trans ?_ (Below.mono (by assumption) (by first | omega | (simp; done) | (simp; omega)))))⟩
      · go_wp2
        go_ret
        exact ⟨ret_int (broken_stop he HK H).symm, (by repeat (first | exact Below.refl _ _ | refine Below.alloc ?_ (by first | omega | (simp; done) | (simp; omega)) _ | apply Below.drew | apply below_drewN | refine Below.setCell ?_ (by first | omega | (simp; done) | (simp; omega)) _ | refine Below.trans ?_ (Below.mono (by assumption) (by first | omega | (simp; done) | (simp; omega)))))⟩
      · go_wp2
        go_ret
        exact ⟨ret_int (broken_stop he HK H).symm, (by repeat (first | exact Below.refl _ _ | refine Below.alloc ?_ (by first | omega | (simp; done) | (simp; omega)) _ | apply Below.drew | apply below_drewN | refine Below.setCell ?_ (by first | omega | (simp; done) | (simp; omega)) _ | refine Below.trans ?_ (Below.mono (by assumption) (by first | omega | (simp; done) | (simp; omega)))))⟩
      · go_wp2
        go_ret
        exact ⟨ret_int (broken_stop he HK H).symm, (by repeat (first | exact Below.refl _ _ | refine Below.alloc ?_ (by first | omega | (simp; done) | (simp; omega)) _ | apply Below.drew | apply below_drewN | refine Below.setCell ?_ (by first | omega | (simp; done) | (simp; omega)) _ | refine Below.trans ?_ (Below.mono (by assumption) (by first | omega | (simp; done) | (simp; omega)))))⟩
      have hh1 : w1.heap[w.heap.size]? = some (.cells #[.string lv, .int .i64 lb, .int .i64 la, .int .i64 lc] 48 (0, 0)) := by
        rw [hb1.block _ (by simp; omega)]; exact (Below.heap_alloc _ _ _ hz).trans hh
      have g2 : w1.cell? ⟨w.heap.size, 2, none⟩ = some (.int .i64 la) := by rw [cell_of_row _ _ _ _ _ _ hh1]; rfl
      have k0 := e0 ⟨w1, hb1⟩
      have k1 := e1 ⟨w1, hb1⟩
      have k2 := e2 ⟨w1, hb1⟩
      have k3 := e3 ⟨w1, hb1⟩
      have z0 : ∀ j, w1.frozen? ⟨w.heap.size, j, none⟩ = false := fun j => frozen_of_row w1 w.heap.size j _ _ hh1
      have j0 : w1.cell? ⟨w.heap.size, 0, none⟩ = some (.string lv) := by rw [cell_of_row _ _ _ _ _ _ hh1]; rfl
      have j1 : w1.cell? ⟨w.heap.size, 1, none⟩ = some (.int .i64 lb) := by rw [cell_of_row _ _ _ _ _ _ hh1]; rfl
      have j3 : w1.cell? ⟨w.heap.size, 3, none⟩ = some (.int .i64 lc) := by rw [cell_of_row _ _ _ _ _ _ hh1]; rfl
      simp only [] at k0 k1 k2 k3
      clear e0 e1 e2 e3 e4
      have hz1 : w.heap.size < w1.heap.size := by have := hb1.size; simp at this; omega
      have hch : 0 ≤ e.chain ∧ e.chain ≤ 65535 := by have h5 : e.chain = chainI lc e.verb e.before e.after := (by simpa using f5); rw [h5]; exact chainI_bd _ _ _ _
      rcases hlast with ⟨q0, q1, H⟩ | ⟨q0, q1, H⟩ | ⟨rfl, H⟩
      · go_wp2
        go_ret
        exact ⟨ret_int (broken_stop he HK H).symm, (by repeat (first | exact Below.refl _ _ | refine Below.alloc ?_ (by first | omega | (simp; done) | (simp; omega)) _ | apply Below.drew | apply below_drewN | refine Below.setCell ?_ (by first | omega | (simp; done) | (simp; omega)) _ | refine Below.trans ?_ (Below.mono (by assumption) (by first | omega | (simp; done) | (simp; omega)))))⟩
      · go_wp2
        go_roundw
        case rel => exact ⟨k + 1, e.verb, e.before, e.after, e.chain, by omega, by go_num, hch, (by repeat (first | exact Below.refl _ _ | refine Below.alloc ?_ (by first | omega | (simp; done) | (simp; omega)) _ | apply Below.drew | apply below_drewN | refine Below.setCell ?_ (by first | omega | (simp; done) | (simp; omega)) _ | refine Below.trans ?_ (Below.mono (by assumption) (by first | omega | (simp; done) | (simp; omega))))), by simp; omega, heap_setCell_same _ _ 3 _ _ _ (heap_setCell_same _ _ 2 _ _ _ (heap_setCell_same _ _ 1 _ _ _ (heap_setCell_same _ _ 0 _ _ _ hh1))), broken_on he HK H⟩
        case measure => simp [intOf]; omega
      · go_wp2
        go_roundw
        case rel => exact ⟨0 + 1, e.verb, e.before, e.after, e.chain, by omega, rfl, hch, (by repeat (first | exact Below.refl _ _ | refine Below.alloc ?_ (by first | omega | (simp; done) | (simp; omega)) _ | apply Below.drew | apply below_drewN | refine Below.setCell ?_ (by first | omega | (simp; done) | (simp; omega)) _ | refine Below.trans ?_ (Below.mono (by assumption) (by first | omega | (simp; done) | (simp; omega))))), by simp; omega, heap_setCell_same _ _ 3 _ _ _ (heap_setCell_same _ _ 2 _ _ _ (heap_setCell_same _ _ 1 _ _ _ (heap_setCell_same _ _ 0 _ _ _ hh1))), broken_on he HK H⟩
        case measure => simp [intOf]; omega
    · go_wp2
      go_ret
      exact ⟨ret_int (broken_end (by omega) HK).symm, (by repeat (first | exact Below.refl _ _ | refine Below.alloc ?_ (by first | omega | (simp; done) | (simp; omega)) _ | apply Below.drew | apply below_drewN | refine Below.setCell ?_ (by first | omega | (simp; done) | (simp; omega)) _ | refine Below.trans ?_ (Below.mono (by assumption) (by first | omega | (simp; done) | (simp; omega)))))⟩

set_option maxHeartbeats 2000000 in
theorem broken_s (b n c : Nat) (l : List Ent) (w : World) (hl : l.length = n) (hn : n ≤ 1048576) (hs : EntS w b l) (hv : ∀ e ∈ l, e.verb.size ≤ 1048576) :
    Calls Tryd.prog 66 #[.slice (some ⟨b, 0, none⟩) n c] w fun e w' => e = .returned (.int .i64 (broken 0 0 0 l)) ∧ Below w.heap.size w w' := by
  go_enter Tryd.func66, Tryd.ntmps66
  go_wp2
  go_loopw [4, 3] (fun i last wr => ∃ (k : Nat) (la lc : Int), k ≤ n ∧ i = .int .i64 k ∧ last = .int .i64 lc ∧ (0 ≤ lc ∧ lc ≤ 65535) ∧ Below w.heap.size w wr ∧ Hid (0 < k → ∃ e, l[k - 1]? = some e ∧ e.after = la) ∧
    Hid (broken 0 0 0 l = broken k lc la (l.drop k))) (fun i _ _ => n - (intOf i).toNat)
  case atStart => exact ⟨0, 0, 0, by omega, rfl, rfl, by omega, (by repeat (first | exact Below.refl _ _ | refine Below.alloc ?_ (by first | omega | (simp; done) | (simp; omega)) _ | apply Below.drew | apply below_drewN | refine Below.setCell ?_ (by first | omega | (simp; done) | (simp; omega)) _ | refine Below.trans ?_ (Below.mono (by assumption) (by first | omega | (simp; done) | (simp; omega))))), Lib.hid (by omega), Lib.hid rfl⟩
  case round =>
    obtain ⟨k, la, lc, hk, rfl, rfl, hlc, hb, HP, HK⟩ := hrel
    by_cases hlt : k < n
    · obtain ⟨e, he⟩ : ∃ e, l[k]? = some e := ⟨l[k]'(by omega), List.getElem?_eq_getElem (by omega)⟩
      have hve := hv e (List.mem_of_getElem? he)
      have hsr := hs.below hb hs.1
      have hz : w.heap.size ≤ wr.heap.size := hb.size
      obtain ⟨c0, c1, c2, c3⟩ := hsr.2 k e he
      have e0 : ∀ x : Wb (wr.alloc (.cells #[.string e.verb, .int .i64 e.before, .int .i64 e.after, .int .i64 e.chain] 48)), x.1.cell? ⟨wr.heap.size, 0, none⟩ = some (.string e.verb) := fun x => Wb.cell (by simp) x
      have e1 : ∀ x : Wb (wr.alloc (.cells #[.string e.verb, .int .i64 e.before, .int .i64 e.after, .int .i64 e.chain] 48)), x.1.cell? ⟨wr.heap.size, 1, none⟩ = some (.int .i64 e.before) := fun x => Wb.cell (by simp) x
      have e2 : ∀ x : Wb (wr.alloc (.cells #[.string e.verb, .int .i64 e.before, .int .i64 e.after, .int .i64 e.chain] 48)), x.1.cell? ⟨wr.heap.size, 2, none⟩ = some (.int .i64 e.after) := fun x => Wb.cell (by simp) x
      have e3 : ∀ x : Wb (wr.alloc (.cells #[.string e.verb, .int .i64 e.before, .int .i64 e.after, .int .i64 e.chain] 48)), x.1.cell? ⟨wr.heap.size, 3, none⟩ = some (.int .i64 e.chain) := fun x => Wb.cell (by simp) x
      have e4 : 0 < k → ∀ x : Wb (wr.alloc (.cells #[.string e.verb, .int .i64 e.before, .int .i64 e.after, .int .i64 e.chain] 48)), x.1.cell? ⟨b, (k - 1) * 4 + 2, none⟩ = some (.int .i64 la) := by
        intro h0 x
        obtain ⟨e', he', ha'⟩ := HP.out h0
        obtain ⟨_, _, p2, _⟩ := hsr.2 (k - 1) e' he'
        rw [ha'] at p2
        exact Wb.cell ((World.cell?_alloc_lt wr _ ⟨b, _, none⟩ hsr.1).trans p2) x
      go_wp2
      rcases ent_cases k lc la e with ⟨f1, H⟩ | ⟨f1, f2, H⟩ | ⟨f1, f2, f3, H⟩ | ⟨f1, f2, f3, f4, H⟩ | ⟨f1, f2, f3, f4, f5, H⟩ | ⟨f1, f2, f3, f4, f5, ⟨q0, q1, H⟩ | ⟨q0, q1, H⟩ | ⟨rfl, H⟩⟩
      iterate 5
        clear e4
        refine wp_region_wb (by kernel_rfl) (by kernel_rfl) ?_
        repeat (go_big_quiet_step (first
          | (go_at_call 80; exact Wb.same (verb_s0 _ _ hve))
          | (go_at_call 56; exact Wb.same (in_s _ _ _ _))
          | (go_at_call 81; exact Wb.calls (chainI_s _ _ _ _ _ _ hlc hve (inB_yes f3) (inB_yes f4)))))
        refine wpQuiet_nil ?_; intro w1 hw'; obtain ⟨⟨w2, hb1⟩, hw''⟩ := hw'; subst hw''
        go_wp2
        go_ret
        exact ⟨ret_int (broken_stop he HK H).symm, (by repeat (first | exact Below.refl _ _ | refine Below.alloc ?_ (by first | omega | (simp; done) | (simp; omega)) _ | apply Below.drew | apply below_drewN | refine Below.setCell ?_ (by first | omega | (simp; done) | (simp; omega)) _ | refine Below.trans ?_ (Below.mono (by assumption) (by first | omega | (simp; done) | (simp; omega)))))⟩
      · have e5 := e4 q0
        have b0 : decide ((0 : Int) < (k : Int)) = true := by simp; omega
        clear e4
        refine wp_region_wb (by kernel_rfl) (by kernel_rfl) ?_
        repeat (go_big_quiet_step (first
          | (go_at_call 80; exact Wb.same (verb_s0 _ _ hve))
          | (go_at_call 56; exact Wb.same (in_s _ _ _ _))
          | (go_at_call 81; exact Wb.calls (chainI_s _ _ _ _ _ _ hlc hve (inB_yes f3) (inB_yes f4)))))
        refine wpQuiet_nil ?_; intro w1 hw'; obtain ⟨⟨w2, hb1⟩, hw''⟩ := hw'; subst hw''
        go_wp2
        go_ret
        exact ⟨ret_int (broken_stop he HK H).symm, (by repeat (first | exact Below.refl _ _ | refine Below.alloc ?_ (by first | omega | (simp; done) | (simp; omega)) _ | apply Below.drew | apply below_drewN | refine Below.setCell ?_ (by first | omega | (simp; done) | (simp; omega)) _ | refine Below.trans ?_ (Below.mono (by assumption) (by first | omega | (simp; done) | (simp; omega)))))⟩
      · have e5 := e4 q0
        have b0 : decide ((0 : Int) < (k : Int)) = true := by simp; omega
        clear e4
        refine wp_region_wb (by kernel_rfl) (by kernel_rfl) ?_
        repeat (go_big_quiet_step (first
          | (go_at_call 80; exact Wb.same (verb_s0 _ _ hve))
          | (go_at_call 56; exact Wb.same (in_s _ _ _ _))
          | (go_at_call 81; exact Wb.calls (chainI_s _ _ _ _ _ _ hlc hve (inB_yes f3) (inB_yes f4)))))
        refine wpQuiet_nil ?_; intro w1 hw'; obtain ⟨⟨w2, hb1⟩, hw''⟩ := hw'; subst hw''
        have k3 := e3 ⟨w1, hb1⟩
        simp only [] at k3
        clear e0 e1 e2 e3
        have hch : 0 ≤ e.chain ∧ e.chain ≤ 65535 := by have h5 : e.chain = chainI lc e.verb e.before e.after := (by simpa using f5); rw [h5]; exact chainI_bd _ _ _ _
        go_wp2
        go_roundw
        case rel => exact ⟨k + 1, e.after, e.chain, by omega, by go_num, rfl, hch, (by repeat (first | exact Below.refl _ _ | refine Below.alloc ?_ (by first | omega | (simp; done) | (simp; omega)) _ | apply Below.drew | apply below_drewN | refine Below.setCell ?_ (by first | omega | (simp; done) | (simp; omega)) _ | refine Below.trans ?_ (Below.mono (by assumption) (by first | omega | (simp; done) | (simp; omega))))), Lib.hid (fun _ => ⟨e, by simpa using he, rfl⟩), broken_on he HK H⟩
        case measure => simp [intOf]; omega
      · clear e4
        refine wp_region_wb (by kernel_rfl) (by kernel_rfl) ?_
        repeat (go_big_quiet_step (first
          | (go_at_call 80; exact Wb.same (verb_s0 _ _ hve))
          | (go_at_call 56; exact Wb.same (in_s _ _ _ _))
          | (go_at_call 81; exact Wb.calls (chainI_s _ _ _ _ _ _ hlc hve (inB_yes f3) (inB_yes f4)))))
        refine wpQuiet_nil ?_; intro w1 hw'; obtain ⟨⟨w2, hb1⟩, hw''⟩ := hw'; subst hw''
        have k3 := e3 ⟨w1, hb1⟩
        simp only [] at k3
        clear e0 e1 e2 e3
        have hch : 0 ≤ e.chain ∧ e.chain ≤ 65535 := by have h5 : e.chain = chainI lc e.verb e.before e.after := (by simpa using f5); rw [h5]; exact chainI_bd _ _ _ _
        go_wp2
        go_roundw
        case rel => exact ⟨0 + 1, e.after, e.chain, by omega, rfl, rfl, hch, (by repeat (first | exact Below.refl _ _ | refine Below.alloc ?_ (by first | omega | (simp; done) | (simp; omega)) _ | apply Below.drew | apply below_drewN | refine Below.setCell ?_ (by first | omega | (simp; done) | (simp; omega)) _ | refine Below.trans ?_ (Below.mono (by assumption) (by first | omega | (simp; done) | (simp; omega))))), Lib.hid (fun _ => ⟨e, by simpa using he, rfl⟩), broken_on he HK H⟩
        case measure => simp [intOf]; omega
    · go_wp2
      go_ret
      exact ⟨ret_int (broken_end (by omega) HK).symm, (by repeat (first | exact Below.refl _ _ | refine Below.alloc ?_ (by first | omega | (simp; done) | (simp; omega)) _ | apply Below.drew | apply below_drewN | refine Below.setCell ?_ (by first | omega | (simp; done) | (simp; omega)) _ | refine Below.trans ?_ (Below.mono (by assumption) (by first | omega | (simp; done) | (simp; omega)))))⟩
end Go.Proofs.YtkpjjohanbiagaaDoor
