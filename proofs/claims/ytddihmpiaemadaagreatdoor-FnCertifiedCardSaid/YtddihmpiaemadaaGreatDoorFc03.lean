/- ValidCertificate, impl and spec: the walks. ValidCertificate of the reference: the walk. Sectors as lists. The helpers of the laws over impl.Sector: sizes, copies, comparison, marks. Printed by gen_flat.py. The laws' own helpers over discs: sizes. The laws' own helpers over discs: copies. The laws' own helpers over discs: copies of lists, comparison. The laws' own helpers over discs: comparison. -/
import Derived.Test.YtddihmpiaemadaaGreatDoorFc02
import Derived.Test.YtddihmpiaemadaaGreatDoorFc01
namespace Go.Proofs.YtddihmpiaemadaaGreatDoor
set_option linter.unusedVariables false
set_option linter.unusedSimpArgs false
open Go.RowKit

def srcOk (last : Int) (s : Src) : Bool := inB s.kind 1 4 && (inB s.sector (last + 1) 127 && (inB s.dump 0 4 && !(s.dump != 0 && s.kind != 1)))
def certFrom : Int → List Src → Bool
  | _, [] => true
  | last, s :: r => srcOk last s && certFrom s.sector r
def certOk (l : List Src) : Bool := certFrom (-1) l
theorem cert_yes {l : List Src} {k : Nat} {last : Int} {s : Src} (hs : l[k]? = some s) (H : Hid (certOk l = certFrom last (l.drop k))) (h : srcOk last s = true) : Hid (certOk l = certFrom s.sector (l.drop (k + 1))) := by
  obtain ⟨hk, rfl⟩ := List.getElem?_eq_some_iff.1 hs
  exact Lib.hid (by rw [H.out, List.drop_eq_getElem_cons hk, certFrom, h, Bool.true_and])
theorem cert_no {l : List Src} {k : Nat} {last : Int} {s : Src} (hs : l[k]? = some s) (H : Hid (certOk l = certFrom last (l.drop k))) (h : srcOk last s = false) : certOk l = false := by
  obtain ⟨hk, rfl⟩ := List.getElem?_eq_some_iff.1 hs
  rw [H.out, List.drop_eq_getElem_cons hk, certFrom, h, Bool.false_and]
theorem cert_end {l : List Src} {k : Nat} {last : Int} (hk : l.length ≤ k) (H : Hid (certOk l = certFrom last (l.drop k))) : certOk l = true := by
  rw [H.out, List.drop_of_length_le hk, certFrom]
theorem srcOk_iff {last : Int} {s : Src} : srcOk last s = true ↔ (1 ≤ s.kind ∧ s.kind ≤ 4) ∧ (last + 1 ≤ s.sector ∧ s.sector ≤ 127) ∧ (0 ≤ s.dump ∧ s.dump ≤ 4) ∧ (s.dump = 0 ∨ s.kind = 1) := by
  unfold srcOk inB
  simp only [Bool.and_eq_true, decide_eq_true_eq, Bool.not_eq_true', Bool.and_eq_false_iff, bne_eq_false_iff_eq]
theorem src_bad {last : Int} {s : Src} (h : ¬ ((1 ≤ s.kind ∧ s.kind ≤ 4) ∧ (last + 1 ≤ s.sector ∧ s.sector ≤ 127) ∧ (0 ≤ s.dump ∧ s.dump ≤ 4) ∧ (s.dump = 0 ∨ s.kind = 1))) : srcOk last s = false := by
  cases he : srcOk last s
  · rfl
  · exact absurd (srcOk_iff.1 he) h
theorem src_good {last : Int} {s : Src} (h : (1 ≤ s.kind ∧ s.kind ≤ 4) ∧ (last + 1 ≤ s.sector ∧ s.sector ≤ 127) ∧ (0 ≤ s.dump ∧ s.dump ≤ 4) ∧ (s.dump = 0 ∨ s.kind = 1)) : srcOk last s = true := srcOk_iff.2 h
set_option maxRecDepth 20000 in
set_option maxHeartbeats 4000000 in
theorem cert_i (B : Nat) (l : List Src) (v : Value) (w : World) (h : OwnL Src.cells 3 49 B w v l) (hn : l.length ≤ 1048576) :
    Calls Tryz.prog 21 #[.agg #[v]] w fun e w' => e = .returned (.bool (certOk l)) ∧ Below w.heap.size w w' := by
  obtain ⟨A, c, rfl, hA⟩ := h.shape
  by_cases hl0 : l = []
  · subst hl0
    go_enter Tryz.func21, Tryz.ntmps21
    go_wp2
    refine wp_loop_once ?_
    go_wp2
    go_ret
    exact ⟨rfl, (by repeat (first | exact Below.refl _ _ | refine Below.alloc ?_ (by first | omega | (simp; done) | (simp; omega)) _ | apply Below.drew | apply below_drewN | refine Below.setCell ?_ (by first | omega | (simp; done) | (simp; omega)) _ | refine Below.trans ?_ (Below.mono (by assumption) (by first | omega | (simp; done) | (simp; omega)))))⟩
  · obtain ⟨g, rfl, _, hg⟩ := hA.resolve_left hl0
    clear hA
    have HC : Hid (∀ (k : Nat) (s : Src) (j : Nat) (u : Value), l[k]? = some s → s.cells[j]? = some u → w.cell? ⟨g, k * 3 + j, none⟩ = some u) := Lib.hid (fun k s j u h1 h2 => OwnL.cell Src.len h h1 h2)
    clear h
    go_enter Tryz.func21, Tryz.ntmps21
    go_wp2
    go_loopw [8] (fun i wr => ∃ (k : Nat) (last : Int), k ≤ l.length ∧ i = .int .i64 k ∧ Below (w.heap.size + 1) (w.alloc (.cells #[.slice (some ⟨g, 0, none⟩) l.length c] 35)) wr ∧ (k = 0 → last = -1) ∧ (0 < k → 0 ≤ last ∧ ∃ s, l[k - 1]? = some s ∧ s.sector = last) ∧ Hid (certOk l = certFrom last (l.drop k))) (fun i _ => l.length - (intOf i).toNat)
    case atStart => exact ⟨0, -1, by omega, rfl, Below.refl _ _, fun _ => rfl, by omega, Lib.hid rfl⟩
    case round =>
      obtain ⟨k, last, hk, rfl, hb, hk0, hk1, HK⟩ := hrel
      have zr : w.heap.size + 1 ≤ wr.heap.size := by have := hb.size; simpa using this
      by_cases hlt : k < l.length
      · obtain ⟨s, hs⟩ : ∃ s, l[k]? = some s := ⟨l[k], List.getElem?_eq_getElem hlt⟩
        have HS := Lib.hid hs
        have al : ∀ j, (w.alloc (.cells #[.slice (some ⟨g, 0, none⟩) l.length c] 35)).cell? ⟨g, j, none⟩ = w.cell? ⟨g, j, none⟩ := fun j => World.cell?_alloc_old _ _ _ (Nat.ne_of_lt hg)
        have p0 := ((hb.cell (p := ⟨g, k * 3, none⟩) (by show g < _; omega)).trans (al _)).trans (HC.out k s 0 _ hs rfl)
        have p1 := ((hb.cell (p := ⟨g, k * 3 + 1, none⟩) (by show g < _; omega)).trans (al _)).trans (HC.out k s 1 _ hs rfl)
        have p2 := ((hb.cell (p := ⟨g, k * 3 + 2, none⟩) (by show g < _; omega)).trans (al _)).trans (HC.out k s 2 _ hs rfl)
        have pb : wr.cell? ⟨w.heap.size, 0, none⟩ = some (.slice (some ⟨g, 0, none⟩) l.length c) := (hb.cell (p := ⟨w.heap.size, 0, none⟩) (by show w.heap.size < _; omega)).trans (by simp)
        have pp : 0 < k → wr.cell? ⟨g, (k - 1) * 3 + 1, none⟩ = some (.int .i64 last) := fun h => by
          obtain ⟨_, s', h1, h2⟩ := hk1 h
          rw [← h2]
          exact ((hb.cell (p := ⟨g, (k - 1) * 3 + 1, none⟩) (by show g < _; omega)).trans (al _)).trans (HC.out (k - 1) s' 1 _ h1 rfl)
        clear al hs
        have hlast : -1 ≤ last := by
          by_cases h0 : k = 0
          · rw [hk0 h0]; omega
          · have := (hk1 (by omega)).1; omega
        have e0 : ∀ x : Wb (wr.alloc (.cells #[.int .i64 s.kind, .int .i64 s.sector, .int .i64 s.dump] 49)), x.1.cell? ⟨wr.heap.size, 0, none⟩ = some (.int .i64 s.kind) := fun x => Wb.cell (by simp) x
        have e1 : ∀ x : Wb (wr.alloc (.cells #[.int .i64 s.kind, .int .i64 s.sector, .int .i64 s.dump] 49)), x.1.cell? ⟨wr.heap.size, 1, none⟩ = some (.int .i64 s.sector) := fun x => Wb.cell (by simp) x
        have e2 : ∀ x : Wb (wr.alloc (.cells #[.int .i64 s.kind, .int .i64 s.sector, .int .i64 s.dump] 49)), x.1.cell? ⟨wr.heap.size, 2, none⟩ = some (.int .i64 s.dump) := fun x => Wb.cell (by simp) x
        have eb : ∀ x : Wb (wr.alloc (.cells #[.int .i64 s.kind, .int .i64 s.sector, .int .i64 s.dump] 49)), x.1.cell? ⟨w.heap.size, 0, none⟩ = some (.slice (some ⟨g, 0, none⟩) l.length c) := fun x => Wb.cell ((World.cell?_alloc_old _ _ _ (by show w.heap.size ≠ _; omega)).trans pb) x
        have ep : 0 < k → ∀ x : Wb (wr.alloc (.cells #[.int .i64 s.kind, .int .i64 s.sector, .int .i64 s.dump] 49)), x.1.cell? ⟨g, (k - 1) * 3 + 1, none⟩ = some (.int .i64 last) := fun h x => Wb.cell ((World.cell?_alloc_old _ _ _ (by show g ≠ _; omega)).trans (pp h)) x
        have hbw : ∀ w1, Below (wr.alloc (.cells #[.int .i64 s.kind, .int .i64 s.sector, .int .i64 s.dump] 49)).heap.size (wr.alloc (.cells #[.int .i64 s.kind, .int .i64 s.sector, .int .i64 s.dump] 49)) w1 → Below (w.heap.size + 1) (w.alloc (.cells #[.slice (some ⟨g, 0, none⟩) l.length c] 35)) w1 := fun w1 h => (hb.alloc zr _).trans (h.mono (by simp; omega))
        have hbf : ∀ w1, Below (w.heap.size + 1) (w.alloc (.cells #[.slice (some ⟨g, 0, none⟩) l.length c] 35)) w1 → Below w.heap.size w w1 := fun w1 h => (Below.alloc (Below.refl _ _) (Nat.le_refl _) _).trans (h.mono (by omega))
        go_wp2_with (fail)
        clear pb pp p0 p1 p2
        cases ha : inB s.sector 0 127
        · have ha' := inB_no ha
          refine wp_region_wb (by kernel_rfl) (by kernel_rfl) ?_; (repeat (go_big_quiet_step ((go_at_call 41; exact Wb.same (within_i _ _ _ _))))); refine wpQuiet_nil ?_; intro w1 hw'; obtain ⟨⟨w2, hb1⟩, hw''⟩ := hw'; subst hw''
          have hb2 := hbw w1 hb1
          have hb3 := hbf w1 hb2
          go_wp2_with (go_at_call 41; refine (within_i _ _ _ _).mono ?_; rintro e w1 ⟨rfl, rfl⟩)
          go_ret
          exact ⟨ret_bool (cert_no HS.out HK (src_bad (by omega))).symm, hb3⟩
        · have ha' := inB_yes ha
          rcases Nat.eq_zero_or_pos k with rfl | hkp
          · have hl1 := hk0 rfl
            clear ep hk1 hk0
            cases hd : inB s.kind 1 4
            · have hd' := inB_no hd
              refine wp_region_wb (by kernel_rfl) (by kernel_rfl) ?_; (repeat (go_big_quiet_step ((go_at_call 41; exact Wb.same (within_i _ _ _ _))))); refine wpQuiet_nil ?_; intro w1 hw'; obtain ⟨⟨w2, hb1⟩, hw''⟩ := hw'; subst hw''
              have hb2 := hbw w1 hb1
              have hb3 := hbf w1 hb2
              go_wp2_with (go_at_call 41; refine (within_i _ _ _ _).mono ?_; rintro e w1 ⟨rfl, rfl⟩)
              go_ret
              exact ⟨ret_bool (cert_no HS.out HK (src_bad (by omega))).symm, hb3⟩
            · have hd' := inB_yes hd
              by_cases he : s.kind = 1
              · have he1 : (s.kind == 1) = true := by simp [he]
                have he2 : (s.kind != 1) = false := by simp [he]
                cases hf : inB s.dump 0 4
                · have hf' := inB_no hf
                  refine wp_region_wb (by kernel_rfl) (by kernel_rfl) ?_; (repeat (go_big_quiet_step ((go_at_call 41; exact Wb.same (within_i _ _ _ _))))); refine wpQuiet_nil ?_; intro w1 hw'; obtain ⟨⟨w2, hb1⟩, hw''⟩ := hw'; subst hw''
                  have hb2 := hbw w1 hb1
                  have hb3 := hbf w1 hb2
                  have q0 : w1.cell? ⟨wr.heap.size, 0, none⟩ = some (.int .i64 s.kind) := e0 ⟨w1, hb1⟩
                  have q2 : w1.cell? ⟨wr.heap.size, 2, none⟩ = some (.int .i64 s.dump) := e2 ⟨w1, hb1⟩
                  go_wp2_with (go_at_call 41; refine (within_i _ _ _ _).mono ?_; rintro e w1 ⟨rfl, rfl⟩)
                  go_ret
                  exact ⟨ret_bool (cert_no HS.out HK (src_bad (by omega))).symm, hb3⟩
                · have hf' := inB_yes hf
                  refine wp_region_wb (by kernel_rfl) (by kernel_rfl) ?_; (repeat (go_big_quiet_step ((go_at_call 41; exact Wb.same (within_i _ _ _ _))))); refine wpQuiet_nil ?_; intro w1 hw'; obtain ⟨⟨w2, hb1⟩, hw''⟩ := hw'; subst hw''
                  have hb2 := hbw w1 hb1
                  have hb3 := hbf w1 hb2
                  have q0 : w1.cell? ⟨wr.heap.size, 0, none⟩ = some (.int .i64 s.kind) := e0 ⟨w1, hb1⟩
                  have q2 : w1.cell? ⟨wr.heap.size, 2, none⟩ = some (.int .i64 s.dump) := e2 ⟨w1, hb1⟩
                  go_wp2_with (go_at_call 41; refine (within_i _ _ _ _).mono ?_; rintro e w1 ⟨rfl, rfl⟩)
                  go_roundw
                  case rel => exact ⟨_, s.sector, Nat.succ_le_of_lt hlt, by go_num, hb2, by omega, fun _ => ⟨by omega, s, HS.out, rfl⟩, cert_yes HS.out HK (src_good (by omega))⟩
                  case measure => simp [intOf]; omega
              · have he1 : (s.kind == 1) = false := by simp [he]
                have he2 : (s.kind != 1) = true := by simp [he]
                by_cases hg0 : s.dump = 0
                · have hg1 : (s.dump != 0) = false := by simp [hg0]
                  refine wp_region_wb (by kernel_rfl) (by kernel_rfl) ?_; (repeat (go_big_quiet_step ((go_at_call 41; exact Wb.same (within_i _ _ _ _))))); refine wpQuiet_nil ?_; intro w1 hw'; obtain ⟨⟨w2, hb1⟩, hw''⟩ := hw'; subst hw''
                  have hb2 := hbw w1 hb1
                  have hb3 := hbf w1 hb2
                  have q0 : w1.cell? ⟨wr.heap.size, 0, none⟩ = some (.int .i64 s.kind) := e0 ⟨w1, hb1⟩
                  have q2 : w1.cell? ⟨wr.heap.size, 2, none⟩ = some (.int .i64 s.dump) := e2 ⟨w1, hb1⟩
                  go_wp2_with (go_at_call 41; refine (within_i _ _ _ _).mono ?_; rintro e w1 ⟨rfl, rfl⟩)
                  go_roundw
                  case rel => exact ⟨_, s.sector, Nat.succ_le_of_lt hlt, by go_num, hb2, by omega, fun _ => ⟨by omega, s, HS.out, rfl⟩, cert_yes HS.out HK (src_good (by omega))⟩
                  case measure => simp [intOf]; omega
                · have hg1 : (s.dump != 0) = true := by simp [hg0]
                  refine wp_region_wb (by kernel_rfl) (by kernel_rfl) ?_; (repeat (go_big_quiet_step ((go_at_call 41; exact Wb.same (within_i _ _ _ _))))); refine wpQuiet_nil ?_; intro w1 hw'; obtain ⟨⟨w2, hb1⟩, hw''⟩ := hw'; subst hw''
                  have hb2 := hbw w1 hb1
                  have hb3 := hbf w1 hb2
                  have q0 : w1.cell? ⟨wr.heap.size, 0, none⟩ = some (.int .i64 s.kind) := e0 ⟨w1, hb1⟩
                  have q2 : w1.cell? ⟨wr.heap.size, 2, none⟩ = some (.int .i64 s.dump) := e2 ⟨w1, hb1⟩
                  go_wp2_with (go_at_call 41; refine (within_i _ _ _ _).mono ?_; rintro e w1 ⟨rfl, rfl⟩)
                  go_ret
                  exact ⟨ret_bool (cert_no HS.out HK (src_bad (by omega))).symm, hb3⟩
          · have ep' := ep hkp
            have hl1 := (hk1 hkp).1
            clear ep hk1 hk0
            obtain ⟨j, rfl⟩ : ∃ j, k = j + 1 := ⟨k - 1, by omega⟩
            rw [Nat.add_sub_cancel] at ep'
            cases hc0 : decide (s.sector ≤ last)
            · have hc1 := of_decide_eq_false hc0
              cases hd : inB s.kind 1 4
              · have hd' := inB_no hd
                refine wp_region_wb (by kernel_rfl) (by kernel_rfl) ?_; (repeat (go_big_quiet_step ((go_at_call 41; exact Wb.same (within_i _ _ _ _))))); refine wpQuiet_nil ?_; intro w1 hw'; obtain ⟨⟨w2, hb1⟩, hw''⟩ := hw'; subst hw''
                have hb2 := hbw w1 hb1
                have hb3 := hbf w1 hb2
                go_wp2_with (go_at_call 41; refine (within_i _ _ _ _).mono ?_; rintro e w1 ⟨rfl, rfl⟩)
                go_ret
                exact ⟨ret_bool (cert_no HS.out HK (src_bad (by omega))).symm, hb3⟩
              · have hd' := inB_yes hd
                by_cases he : s.kind = 1
                · have he1 : (s.kind == 1) = true := by simp [he]
                  have he2 : (s.kind != 1) = false := by simp [he]
                  cases hf : inB s.dump 0 4
                  · have hf' := inB_no hf
                    refine wp_region_wb (by kernel_rfl) (by kernel_rfl) ?_; (repeat (go_big_quiet_step ((go_at_call 41; exact Wb.same (within_i _ _ _ _))))); refine wpQuiet_nil ?_; intro w1 hw'; obtain ⟨⟨w2, hb1⟩, hw''⟩ := hw'; subst hw''
                    have hb2 := hbw w1 hb1
                    have hb3 := hbf w1 hb2
                    have q0 : w1.cell? ⟨wr.heap.size, 0, none⟩ = some (.int .i64 s.kind) := e0 ⟨w1, hb1⟩
                    have q2 : w1.cell? ⟨wr.heap.size, 2, none⟩ = some (.int .i64 s.dump) := e2 ⟨w1, hb1⟩
                    go_wp2_with (go_at_call 41; refine (within_i _ _ _ _).mono ?_; rintro e w1 ⟨rfl, rfl⟩)
                    go_ret
                    exact ⟨ret_bool (cert_no HS.out HK (src_bad (by omega))).symm, hb3⟩
                  · have hf' := inB_yes hf
                    refine wp_region_wb (by kernel_rfl) (by kernel_rfl) ?_; (repeat (go_big_quiet_step ((go_at_call 41; exact Wb.same (within_i _ _ _ _))))); refine wpQuiet_nil ?_; intro w1 hw'; obtain ⟨⟨w2, hb1⟩, hw''⟩ := hw'; subst hw''
                    have hb2 := hbw w1 hb1
                    have hb3 := hbf w1 hb2
                    have q0 : w1.cell? ⟨wr.heap.size, 0, none⟩ = some (.int .i64 s.kind) := e0 ⟨w1, hb1⟩
                    have q2 : w1.cell? ⟨wr.heap.size, 2, none⟩ = some (.int .i64 s.dump) := e2 ⟨w1, hb1⟩
                    go_wp2_with (go_at_call 41; refine (within_i _ _ _ _).mono ?_; rintro e w1 ⟨rfl, rfl⟩)
                    go_roundw
                    case rel => exact ⟨_, s.sector, Nat.succ_le_of_lt hlt, by go_num, hb2, by omega, fun _ => ⟨by omega, s, HS.out, rfl⟩, cert_yes HS.out HK (src_good (by omega))⟩
                    case measure => simp [intOf]; omega
                · have he1 : (s.kind == 1) = false := by simp [he]
                  have he2 : (s.kind != 1) = true := by simp [he]
                  by_cases hg0 : s.dump = 0
                  · have hg1 : (s.dump != 0) = false := by simp [hg0]
                    refine wp_region_wb (by kernel_rfl) (by kernel_rfl) ?_; (repeat (go_big_quiet_step ((go_at_call 41; exact Wb.same (within_i _ _ _ _))))); refine wpQuiet_nil ?_; intro w1 hw'; obtain ⟨⟨w2, hb1⟩, hw''⟩ := hw'; subst hw''
                    have hb2 := hbw w1 hb1
                    have hb3 := hbf w1 hb2
                    have q0 : w1.cell? ⟨wr.heap.size, 0, none⟩ = some (.int .i64 s.kind) := e0 ⟨w1, hb1⟩
                    have q2 : w1.cell? ⟨wr.heap.size, 2, none⟩ = some (.int .i64 s.dump) := e2 ⟨w1, hb1⟩
                    go_wp2_with (go_at_call 41; refine (within_i _ _ _ _).mono ?_; rintro e w1 ⟨rfl, rfl⟩)
                    go_roundw
                    case rel => exact ⟨_, s.sector, Nat.succ_le_of_lt hlt, by go_num, hb2, by omega, fun _ => ⟨by omega, s, HS.out, rfl⟩, cert_yes HS.out HK (src_good (by omega))⟩
                    case measure => simp [intOf]; omega
                  · have hg1 : (s.dump != 0) = true := by simp [hg0]
                    refine wp_region_wb (by kernel_rfl) (by kernel_rfl) ?_; (repeat (go_big_quiet_step ((go_at_call 41; exact Wb.same (within_i _ _ _ _))))); refine wpQuiet_nil ?_; intro w1 hw'; obtain ⟨⟨w2, hb1⟩, hw''⟩ := hw'; subst hw''
                    have hb2 := hbw w1 hb1
                    have hb3 := hbf w1 hb2
                    have q0 : w1.cell? ⟨wr.heap.size, 0, none⟩ = some (.int .i64 s.kind) := e0 ⟨w1, hb1⟩
                    have q2 : w1.cell? ⟨wr.heap.size, 2, none⟩ = some (.int .i64 s.dump) := e2 ⟨w1, hb1⟩
                    go_wp2_with (go_at_call 41; refine (within_i _ _ _ _).mono ?_; rintro e w1 ⟨rfl, rfl⟩)
                    go_ret
                    exact ⟨ret_bool (cert_no HS.out HK (src_bad (by omega))).symm, hb3⟩
            · have hc1 := of_decide_eq_true hc0
              refine wp_region_wb (by kernel_rfl) (by kernel_rfl) ?_; (repeat (go_big_quiet_step ((go_at_call 41; exact Wb.same (within_i _ _ _ _))))); refine wpQuiet_nil ?_; intro w1 hw'; obtain ⟨⟨w2, hb1⟩, hw''⟩ := hw'; subst hw''
              have hb2 := hbw w1 hb1
              have hb3 := hbf w1 hb2
              go_wp2_with (go_at_call 41; refine (within_i _ _ _ _).mono ?_; rintro e w1 ⟨rfl, rfl⟩)
              go_ret
              exact ⟨ret_bool (cert_no HS.out HK (src_bad (by omega))).symm, hb3⟩
      · go_wp2
        go_ret
        exact ⟨ret_bool (cert_end (by omega) HK).symm, (Below.alloc (Below.refl _ _) (Nat.le_refl _) _).trans (hb.mono (by omega))⟩
end Go.Proofs.YtddihmpiaemadaaGreatDoor
namespace Go.Proofs.YtddihmpiaemadaaGreatDoor
set_option linter.unusedVariables false
set_option linter.unusedSimpArgs false
open Go.RowKit
set_option maxRecDepth 20000 in
set_option maxHeartbeats 4000000 in
theorem certp_s (gb c : Nat) (A : Option Addr) (l : List Src) (w : World) (hbox : w.cell? ⟨gb, 0, none⟩ = some (.slice A l.length c)) (hA : l = [] ∨ ∃ g, A = some ⟨g, 0, none⟩ ∧ g < w.heap.size ∧ ∀ (k : Nat) (s : Src) (j : Nat) (u : Value), l[k]? = some s → s.cells[j]? = some u → w.cell? ⟨g, k * 3 + j, none⟩ = some u) (hn : l.length ≤ 1048576) :
    Calls Tryz.prog 24 #[.pointer (some ⟨gb, 0, none⟩)] w fun e w' => e = .returned (.bool (certOk l)) ∧ Below w.heap.size w w' := by
  have hgb := World.block_lt_of_cell? w _ hbox
  by_cases hl0 : l = []
  · subst hl0
    go_enter Tryz.func24, Tryz.ntmps24
    go_wp2
    refine wp_loop_once ?_
    go_wp2
    go_ret
    exact ⟨rfl, (by repeat (first | exact Below.refl _ _ | refine Below.alloc ?_ (by first | omega | (simp; done) | (simp; omega)) _ | apply Below.drew | apply below_drewN | refine Below.setCell ?_ (by first | omega | (simp; done) | (simp; omega)) _ | refine Below.trans ?_ (Below.mono (by assumption) (by first | omega | (simp; done) | (simp; omega)))))⟩
  · obtain ⟨g, rfl, hg, hc⟩ := hA.resolve_left hl0
    have HC := Lib.hid hc
    clear hA hc
    go_enter Tryz.func24, Tryz.ntmps24
    go_wp2
    go_loopw [4, 3] (fun i y wr => ∃ (k : Nat) (last : Int), k ≤ l.length ∧ i = .int .i64 k ∧ y = .int .i64 last ∧ -1 ≤ last ∧ last ≤ 127 ∧ Below w.heap.size w wr ∧ Hid (certOk l = certFrom last (l.drop k))) (fun i _ _ => l.length - (intOf i).toNat)
    case atStart => exact ⟨0, -1, by omega, rfl, rfl, by omega, by omega, Below.refl _ _, Lib.hid rfl⟩
    case round =>
      obtain ⟨k, last, hk, rfl, rfl, hlast, hlast2, hb, HK⟩ := hrel
      have zr := hb.size
      have pb := (hb.cell (p := ⟨gb, 0, none⟩) hgb).trans hbox
      by_cases hlt : k < l.length
      · obtain ⟨s, hs⟩ : ∃ s, l[k]? = some s := ⟨l[k], List.getElem?_eq_getElem hlt⟩
        have HS := Lib.hid hs
        have p0 := (hb.cell (p := ⟨g, k * 3, none⟩) hg).trans (HC.out k s 0 _ hs rfl)
        have p1 := (hb.cell (p := ⟨g, k * 3 + 1, none⟩) hg).trans (HC.out k s 1 _ hs rfl)
        have p2 := (hb.cell (p := ⟨g, k * 3 + 2, none⟩) hg).trans (HC.out k s 2 _ hs rfl)
        have hbf : Below w.heap.size w (wr.alloc (.cells #[.int .i64 s.kind, .int .i64 s.sector, .int .i64 s.dump] 49)) := hb.alloc zr _
        clear hs
        cases hd : inB s.kind 1 4
        · have hd' := inB_no hd
          go_wp2_with (go_at_call 50; refine (in_s _ _ _ _).mono ?_; rintro e w1 ⟨rfl, rfl⟩)
          go_ret
          exact ⟨ret_bool (cert_no HS.out HK (src_bad (by omega))).symm, hbf⟩
        · have hd' := inB_yes hd
          cases ha : inB s.sector (last + 1) 127
          · have ha' := inB_no ha
            go_wp2_with (go_at_call 50; refine (in_s _ _ _ _).mono ?_; rintro e w1 ⟨rfl, rfl⟩)
            go_ret
            exact ⟨ret_bool (cert_no HS.out HK (src_bad (by omega))).symm, hbf⟩
          · have ha' := inB_yes ha
            cases hf : inB s.dump 0 4
            · have hf' := inB_no hf
              go_wp2_with (go_at_call 50; refine (in_s _ _ _ _).mono ?_; rintro e w1 ⟨rfl, rfl⟩)
              go_ret
              exact ⟨ret_bool (cert_no HS.out HK (src_bad (by omega))).symm, hbf⟩
            · have hf' := inB_yes hf
              by_cases hg0 : s.dump = 0
              · have hg1 : (s.dump != 0) = false := by simp [hg0]
                have HG := Lib.hid hg0
                clear hg0
                go_wp2_with (go_at_call 50; refine (in_s _ _ _ _).mono ?_; rintro e w1 ⟨rfl, rfl⟩)
                go_roundw
                case rel => exact ⟨_, s.sector, Nat.succ_le_of_lt hlt, by go_num, rfl, by omega, by omega, hbf, cert_yes HS.out HK (src_good (by have := HG.out; omega))⟩
                case measure => simp [intOf]; omega
              · have hg1 : (s.dump != 0) = true := by simp [hg0]
                by_cases he : s.kind = 1
                · have he1 : (s.kind != 1) = false := by simp [he]
                  have HE := Lib.hid he
                  clear he
                  go_wp2_with (go_at_call 50; refine (in_s _ _ _ _).mono ?_; rintro e w1 ⟨rfl, rfl⟩)
                  go_roundw
                  case rel => exact ⟨_, s.sector, Nat.succ_le_of_lt hlt, by go_num, rfl, by omega, by omega, hbf, cert_yes HS.out HK (src_good (by have := HE.out; omega))⟩
                  case measure => simp [intOf]; omega
                · have he1 : (s.kind != 1) = true := by simp [he]
                  go_wp2_with (go_at_call 50; refine (in_s _ _ _ _).mono ?_; rintro e w1 ⟨rfl, rfl⟩)
                  go_ret
                  exact ⟨ret_bool (cert_no HS.out HK (src_bad (by omega))).symm, hbf⟩
      · go_wp2
        go_ret
        exact ⟨ret_bool (cert_end (by omega) HK).symm, hb⟩
set_option maxHeartbeats 1000000 in
theorem cert_s (B : Nat) (l : List Src) (v : Value) (w : World) (h : OwnL Src.cells 3 49 B w v l) (hn : l.length ≤ 1048576) :
    Calls Tryz.prog 11 #[.agg #[v]] w fun e w' => e = .returned (.bool (certOk l)) ∧ Below w.heap.size w w' := by
  obtain ⟨A, c, rfl, hA⟩ := h.shape
  have HP := certp_s w.heap.size c A l (w.alloc (.cells #[.slice A l.length c] 35)) (by simp) (by
    by_cases hl0 : l = []
    · exact .inl hl0
    · obtain ⟨g, rfl, _, hg⟩ := hA.resolve_left hl0
      exact .inr ⟨g, rfl, by simp; omega, fun k s j u h1 h2 => (World.cell?_alloc_old _ _ _ (Nat.ne_of_lt hg)).trans (OwnL.cell Src.len h h1 h2)⟩) hn
  clear h hA
  go_enter Tryz.func11, Tryz.ntmps11
  go_wp2_with (go_at_call 24; refine HP.mono ?_; rintro e w1 ⟨rfl, hb1⟩)
  go_ret
  exact ⟨rfl, (by repeat (first | exact Below.refl _ _ | refine Below.alloc ?_ (by first | omega | (simp; done) | (simp; omega)) _ | apply Below.drew | apply below_drewN | refine Below.setCell ?_ (by first | omega | (simp; done) | (simp; omega)) _ | refine Below.trans ?_ (Below.mono (by assumption) (by first | omega | (simp; done) | (simp; omega)))))⟩
end Go.Proofs.YtddihmpiaemadaaGreatDoor
namespace Go.Proofs.YtddihmpiaemadaaGreatDoor
set_option linter.unusedVariables false
set_option linter.unusedSimpArgs false
open Go.RowKit
structure Sec where
  data : ByteArray
  state : Int
def Sec.cells (e : Sec) : List Value := [.string e.data, .int .i64 e.state]
end Go.Proofs.YtddihmpiaemadaaGreatDoor
namespace Go.Proofs.YtddihmpiaemadaaGreatDoor
set_option linter.unusedVariables false
set_option linter.unusedSimpArgs false
open Go.RowKit

theorem Sec.len (e : Sec) : e.cells.length = 2 := rfl
def Sec.wt (e : Sec) : Nat := e.data.size
def Sec.wts (l : List Sec) : Nat := (l.map Sec.wt).foldr (· + ·) 0
theorem Sec.wts_drop {l : List Sec} {k : Nat} {e : Sec} (he : l[k]? = some e) : Sec.wts (l.drop k) = Sec.wt e + Sec.wts (l.drop (k + 1)) := by
  obtain ⟨h, rfl⟩ := List.getElem?_eq_some_iff.1 he
  rw [List.drop_eq_getElem_cons h]; rfl
theorem Sec.info : (Tryz.prog.info? 56).map (fun i => (i.zero, i.size, i.bytes)) = some (some (.agg #[.string .empty, .int .i64 0]), 2, 24) := by kernel_rfl
def Sec.zero : Sec := ⟨.empty, 0⟩
instance : Inhabited Sec := ⟨Sec.zero⟩

def Sec.mark (k : Nat) : Sec := ⟨mt k, ((k + 1 : Nat) : Int)⟩
def Sec.marks (k n : Nat) : List Sec := (List.range n).map fun i => Sec.mark (k + i * 2)
theorem Sec.marks_len (k n : Nat) : (Sec.marks k n).length = n := by simp [Sec.marks]
theorem Sec.marks_get (k n i : Nat) (h : i < n) : (Sec.marks k n)[i]? = some (Sec.mark (k + i * 2)) := by simp [Sec.marks, h]
theorem Sec.marks_succ (k n : Nat) : Sec.marks k (n + 1) = Sec.marks k n ++ [Sec.mark (k + n * 2)] := by simp [Sec.marks, List.range_succ]
theorem Sec.mid_get (k0 k : Nat) (l : List Sec) : (Sec.marks k0 k ++ l.drop k)[k]? = l[k]? := by
  rw [List.getElem?_append_right (by rw [Sec.marks_len]; omega), Sec.marks_len, Nat.sub_self, List.getElem?_drop, Nat.add_zero]
theorem Sec.mid_len (k0 k : Nat) (l : List Sec) (h : k ≤ l.length) : (Sec.marks k0 k ++ l.drop k).length = l.length := by simp [Sec.marks_len]; omega
theorem Sec.mid_set (k0 k : Nat) (l : List Sec) (h : k < l.length) : (Sec.marks k0 k ++ l.drop k).set k (Sec.mark (k0 + k * 2)) = Sec.marks k0 (k + 1) ++ l.drop (k + 1) := by
  rw [List.set_append_right _ _ (by rw [Sec.marks_len]; omega), Sec.marks_len, Nat.sub_self, List.drop_eq_getElem_cons h, List.set_cons_zero, Sec.marks_succ, List.append_assoc]; rfl
def MarkedSector (B : Nat) (w : World) (v : Value) (k0 n : Nat) (e : Ending) (w' : World) : Prop :=
  e = .returned (.int .i64 ((k0 + n * 2 : Nat) : Int)) ∧ OwnL Sec.cells 2 56 B w' v (Sec.marks k0 n) ∧ w.grownBy w' v.ownBlock

/-- []impl.Sector in memory -/
def RSectorS : Rep (List Sec) := RepL Sec.cells 2 56 Sec.wt (fun e => e.data.size ≤ maxLen) Sec.marks
end Go.Proofs.YtddihmpiaemadaaGreatDoor
namespace Go.Proofs.YtddihmpiaemadaaGreatDoor
set_option linter.unusedVariables false
set_option linter.unusedSimpArgs false
open Go.RowKit

structure Dsc where
  cyl : Int
  heads : Int
  per : Int
  size : Int
  secs : List Sec
instance : Inhabited Dsc := ⟨⟨0, 0, 0, 0, []⟩⟩
abbrev SecIn (w : World) (v : Value) (l : List Sec) : Prop := RawL Sec.cells 2 w v l ∧ ∀ e ∈ l, e.data.size ≤ maxLen
abbrev SecOwn (B : Nat) (w : World) (v : Value) (l : List Sec) : Prop := OwnL Sec.cells 2 56 B w v l
theorem SecIn.below {w w' : World} {v : Value} {l : List Sec} (h : SecIn w v l) (hb : Below w.heap.size w w') : SecIn w' v l := ⟨h.1.below hb, h.2⟩
def Dsc.ints (d : Dsc) : List Value := [.int .i64 d.cyl, .int .i64 d.heads, .int .i64 d.per, .int .i64 d.size]
/-- discs that came in -/
def DscIn (w : World) (v : Value) (l : List Dsc) : Prop := ∃ A c, v = .slice A l.length c ∧ l.length ≤ maxLen ∧ (l = [] ∨ ∃ b o, A = some ⟨b, o, none⟩ ∧ b < w.heap.size ∧ ∀ (k : Nat) (e : Dsc), l[k]? = some e → ∃ bv, SecIn w bv e.secs ∧ ∀ (j : Nat) (u : Value), (e.ints ++ [bv])[j]? = some u → w.cell? ⟨b, o + k * 5 + j, none⟩ = some u)
theorem DscIn.below {w w' : World} {v : Value} {l : List Dsc} (h : DscIn w v l) (hb : Below w.heap.size w w') : DscIn w' v l := by
  obtain ⟨A, c, rfl, hm, h⟩ := h
  refine ⟨A, c, rfl, hm, ?_⟩
  rcases h with h | ⟨b, o, rfl, hlt, hc⟩
  · exact .inl h
  · exact .inr ⟨b, o, rfl, Nat.lt_of_lt_of_le hlt hb.size, fun k e hk => by
      obtain ⟨bv, h1, h2⟩ := hc k e hk
      exact ⟨bv, h1.below hb, fun j u hu => (hb.cell (p := ⟨b, _, none⟩) hlt).trans (h2 j u hu)⟩⟩
/-- discs that the call has made -/
def DscOwn (B : Nat) (w : World) (v : Value) (l : List Dsc) : Prop := ∃ A c, v = .slice A l.length c ∧ (l = [] ∨ ∃ g, A = some ⟨g, 0, none⟩ ∧ B ≤ g ∧ g < w.heap.size ∧ ∀ (k : Nat) (e : Dsc), l[k]? = some e → ∃ bv, SecOwn B w bv e.secs ∧ ∀ (j : Nat) (u : Value), (e.ints ++ [bv])[j]? = some u → w.cell? ⟨g, k * 5 + j, none⟩ = some u)
theorem DscOwn.below {B : Nat} {w w' : World} {v : Value} {l : List Dsc} (h : DscOwn B w v l) (hb : Below w.heap.size w w') : DscOwn B w' v l := by
  obtain ⟨A, c, rfl, h⟩ := h
  refine ⟨A, c, rfl, ?_⟩
  rcases h with h | ⟨g, rfl, hB, hlt, hc⟩
  · exact .inl h
  · exact .inr ⟨g, rfl, hB, Nat.lt_of_lt_of_le hlt hb.size, fun k e hk => by
      obtain ⟨bv, h1, h2⟩ := hc k e hk
      exact ⟨bv, OwnL.below h1 hb, fun j u hu => (hb.cell (p := ⟨g, _, none⟩) hlt).trans (h2 j u hu)⟩⟩
def Dsc.wt (d : Dsc) : Nat := d.secs.length + Sec.wts d.secs
def Dsc.wts (l : List Dsc) : Nat := (l.map Dsc.wt).foldr (· + ·) 0
theorem Dsc.wts_drop {l : List Dsc} {k : Nat} {e : Dsc} (he : l[k]? = some e) : Dsc.wts (l.drop k) = e.wt + Dsc.wts (l.drop (k + 1)) := by
  obtain ⟨h, rfl⟩ := List.getElem?_eq_some_iff.1 he
  rw [List.drop_eq_getElem_cons h]; rfl
abbrev dscV (d : Dsc) (bv : Value) : Value := .agg #[.int .i64 d.cyl, .int .i64 d.heads, .int .i64 d.per, .int .i64 d.size, bv]
end Go.Proofs.YtddihmpiaemadaaGreatDoor
namespace Go.Proofs.YtddihmpiaemadaaGreatDoor
set_option linter.unusedVariables false
set_option linter.unusedSimpArgs false
open Go.RowKit
def dpc (p : Dsc × Value) : List Value := [.int .i64 p.1.cyl, .int .i64 p.1.heads, .int .i64 p.1.per, .int .i64 p.1.size, p.2]
theorem dpc_len (p : Dsc × Value) : (dpc p).length = 5 := rfl
theorem dpc_info : (Tryz.prog.info? 32).map (fun i => (i.zero, i.size, i.bytes)) = some (some (.agg #[.int .i64 0, .int .i64 0, .int .i64 0, .int .i64 0, .slice none 0 0]), 5, 56) := by kernel_rfl
theorem far_set {α : Type} {f : α → List Value} {z : Nat} {e : TypeId} {B g o : Nat} {w : World} {v u : Value} {l : List α} (h : OwnL f z e B w v l) (hg : g < B) : OwnL f z e B (w.setCell ⟨g, o, none⟩ u) v l := by
  refine h.kept (gset (World.grownBy.refl w _) o u) ?_
  cases hv : v.ownBlock with
  | none => exact .inl rfl
  | some q => exact .inr (by intro he; have := (World.ownsRow.lt h q hv).1; injection he with he; omega)
abbrev set5 (w : World) (b o : Nat) (u0 u1 u2 u3 u4 : Value) : World := ((((w.setCell ⟨b, o, none⟩ u0).setCell ⟨b, o + 1, none⟩ u1).setCell ⟨b, o + 2, none⟩ u2).setCell ⟨b, o + 3, none⟩ u3).setCell ⟨b, o + 4, none⟩ u4
theorem ne_off {b x y : Nat} (h : x ≠ y) : (⟨b, x, none⟩ : Addr) ≠ ⟨b, y, none⟩ := fun e => by injection e with _ e2 _; exact h e2
end Go.Proofs.YtddihmpiaemadaaGreatDoor
namespace Go.Proofs.YtddihmpiaemadaaGreatDoor
set_option linter.unusedVariables false
set_option linter.unusedSimpArgs false
open Go.RowKit
def dz : Dsc × Value := (⟨0, 0, 0, 0, []⟩, .slice none 0 0)
end Go.Proofs.YtddihmpiaemadaaGreatDoor
namespace Go.Proofs.YtddihmpiaemadaaGreatDoor
set_option linter.unusedVariables false
set_option linter.unusedSimpArgs false
open Go.RowKit
end Go.Proofs.YtddihmpiaemadaaGreatDoor
