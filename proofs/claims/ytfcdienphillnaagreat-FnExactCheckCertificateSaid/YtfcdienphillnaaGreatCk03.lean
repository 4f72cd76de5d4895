/- ValidCertificate, impl and spec: the walks. ValidCertificate of the reference: the walk. markText: the walk; it computes a function of its number. Sectors as lists. -/
import Derived.Test.YtfcdienphillnaaGreatCk02
import Derived.Test.YtfcdienphillnaaGreatCk01
namespace Go.Proofs.YtfcdienphillnaaGreat
set_option linter.unusedVariables false
set_option linter.unusedSimpArgs false
open Go.RowKit

def srcOk (last : Int) (s : Src) : Bool := inB s.kind 1 4 && (inB s.sector (last + 1) 127 && (inB s.dump 0 4 && !(s.dump != 0 && s.kind != 1)))
def certFrom : Int → List Src → Bool
  | _, [] => true
  | last, s :: r => srcOk last s && certFrom s.sector r
def certOk (l : List Src) : Bool := certFrom (-1) l
theorem cert_yes {l : List Src} {k : Nat} {last : Int} {s : Src} (hs : l[k]? = some s) (H : Hid (certOk l = certFrom last (l.drop k))) (h : srcOk last s = true) : Hid (certOk l = certFrom s.sector (l.drop (k + 1))) := by
  obtain ⟨hk, rfl⟩ := List.getElem?_eq_some_iff.1 hs
  exact Lib.hid (by rw [H.out, List.drop_eq_getElem_cons hk, certFrom, h, Bool.true_and])
theorem cert_no {l : List Src} {k : Nat} {last : Int} {s : Src} (hs : l[k]? = some s) (H : Hid (certOk l = certFrom last (l.drop k))) (h : srcOk last s = false) : certOk l = false := by
  obtain ⟨hk, rfl⟩ := List.getElem?_eq_some_iff.1 hs
  rw [H.out, List.drop_eq_getElem_cons hk, certFrom, h, Bool.false_and]
theorem cert_end {l : List Src} {k : Nat} {last : Int} (hk : l.length ≤ k) (H : Hid (certOk l = certFrom last (l.drop k))) : certOk l = true := by
  rw [H.out, List.drop_of_length_le hk, certFrom]
theorem srcOk_iff {last : Int} {s : Src} : srcOk last s = true ↔ (1 ≤ s.kind ∧ s.kind ≤ 4) ∧ (last + 1 ≤ s.sector ∧ s.sector ≤ 127) ∧ (0 ≤ s.dump ∧ s.dump ≤ 4) ∧ (s.dump = 0 ∨ s.kind = 1) := by
  unfold srcOk inB
  simp only [Bool.and_eq_true, decide_eq_true_eq, Bool.not_eq_true', Bool.and_eq_false_iff, bne_eq_false_iff_eq]
theorem src_bad {last : Int} {s : Src} (h : ¬ ((1 ≤ s.kind ∧ s.kind ≤ 4) ∧ (last + 1 ≤ s.sector ∧ s.sector ≤ 127) ∧ (0 ≤ s.dump ∧ s.dump ≤ 4) ∧ (s.dump = 0 ∨ s.kind = 1))) : srcOk last s = false := by
  cases he : srcOk last s
  · rfl
  · exact absurd (srcOk_iff.1 he) h
theorem src_good {last : Int} {s : Src} (h : (1 ≤ s.kind ∧ s.kind ≤ 4) ∧ (last + 1 ≤ s.sector ∧ s.sector ≤ 127) ∧ (0 ≤ s.dump ∧ s.dump ≤ 4) ∧ (s.dump = 0 ∨ s.kind = 1)) : srcOk last s = true := srcOk_iff.2 h
theorem i_yes {x lo hi : Int} (h : lo ≤ x ∧ x ≤ hi) : inB x lo hi = true := inB_t h
set_option maxRecDepth 20000 in
set_option maxHeartbeats 4000000 in
theorem cert_i (B : Nat) (l : List Src) (v : Value) (w : World) (h : OwnL Src.cells 3 83 B w v l) (hn : l.length ≤ 1048576) :
    Calls Tryz.prog 85 #[.agg #[v]] w fun e w' => e = .returned (.bool (certOk l)) ∧ Below w.heap.size w w' := by
  obtain ⟨A, c, rfl, hA⟩ := h.shape
  by_cases hl0 : l = []
  · subst hl0
    go_enter Tryz.func85, Tryz.ntmps85
    go_wp2
    refine wp_loop_once ?_
    go_wp2
    go_ret
    exact ⟨rfl, (by repeat (first | exact Below.refl _ _ | refine Below.alloc ?_ (by first | omega | (simp; done) | (simp; omega)) _ | apply Below.drew | apply below_drewN | refine Below.setCell ?_ (by first | omega | (simp; done) | (simp; omega)) _ | refine Below.trans ?_ (Below.mono (by assumption) (by first | omega | (simp; done) | (simp; omega)))))⟩
  · obtain ⟨g, rfl, _, hg⟩ := hA.resolve_left hl0
    clear hA
    have HC : Hid (∀ (k : Nat) (s : Src) (j : Nat) (u : Value), l[k]? = some s → s.cells[j]? = some u → w.cell? ⟨g, k * 3 + j, none⟩ = some u) := Lib.hid (fun k s j u h1 h2 => OwnL.cell Src.len h h1 h2)
    clear h
    go_enter Tryz.func85, Tryz.ntmps85
    go_wp2
    go_loopw [8] (fun i wr => ∃ (k : Nat) (last : Int), k ≤ l.length ∧ i = .int .i64 k ∧ Below (w.heap.size + 1) (w.alloc (.cells #[.slice (some ⟨g, 0, none⟩) l.length c] 47)) wr ∧ (k = 0 → last = -1) ∧ (0 < k → 0 ≤ last ∧ ∃ s, l[k - 1]? = some s ∧ s.sector = last) ∧ Hid (certOk l = certFrom last (l.drop k))) (fun i _ => l.length - (intOf i).toNat)
    case atStart => exact ⟨0, -1, by omega, rfl, Below.refl _ _, fun _ => rfl, by omega, Lib.hid rfl⟩
    case round =>
      obtain ⟨k, last, hk, rfl, hb, hk0, hk1, HK⟩ := hrel
      have zr : w.heap.size + 1 ≤ wr.heap.size := by have := hb.size; simpa using this
      by_cases hlt : k < l.length
      · obtain ⟨s, hs⟩ : ∃ s, l[k]? = some s := ⟨l[k], List.getElem?_eq_getElem hlt⟩
        have HS := Lib.hid hs
        have al : ∀ j, (w.alloc (.cells #[.slice (some ⟨g, 0, none⟩) l.length c] 47)).cell? ⟨g, j, none⟩ = w.cell? ⟨g, j, none⟩ := fun j => World.cell?_alloc_old _ _ _ (Nat.ne_of_lt hg)
        have p0 := ((hb.cell (p := ⟨g, k * 3, none⟩) (by show g < _; omega)).trans (al _)).trans (HC.out k s 0 _ hs rfl)
        have p1 := ((hb.cell (p := ⟨g, k * 3 + 1, none⟩) (by show g < _; omega)).trans (al _)).trans (HC.out k s 1 _ hs rfl)
        have p2 := ((hb.cell (p := ⟨g, k * 3 + 2, none⟩) (by show g < _; omega)).trans (al _)).trans (HC.out k s 2 _ hs rfl)
        have pb : wr.cell? ⟨w.heap.size, 0, none⟩ = some (.slice (some ⟨g, 0, none⟩) l.length c) := (hb.cell (p := ⟨w.heap.size, 0, none⟩) (by show w.heap.size < _; omega)).trans (by simp)
        have pp : 0 < k → wr.cell? ⟨g, (k - 1) * 3 + 1, none⟩ = some (.int .i64 last) := fun h => by
          obtain ⟨_, s', h1, h2⟩ := hk1 h
          rw [← h2]
          exact ((hb.cell (p := ⟨g, (k - 1) * 3 + 1, none⟩) (by show g < _; omega)).trans (al _)).trans (HC.out (k - 1) s' 1 _ h1 rfl)
        clear al hs
        have hlast : -1 ≤ last := by
          by_cases h0 : k = 0
          · rw [hk0 h0]; omega
          · have := (hk1 (by omega)).1; omega
        have e0 : ∀ x : Wb (wr.alloc (.cells #[.int .i64 s.kind, .int .i64 s.sector, .int .i64 s.dump] 83)), x.1.cell? ⟨wr.heap.size, 0, none⟩ = some (.int .i64 s.kind) := fun x => Wb.cell (by simp) x
        have e1 : ∀ x : Wb (wr.alloc (.cells #[.int .i64 s.kind, .int .i64 s.sector, .int .i64 s.dump] 83)), x.1.cell? ⟨wr.heap.size, 1, none⟩ = some (.int .i64 s.sector) := fun x => Wb.cell (by simp) x
        have e2 : ∀ x : Wb (wr.alloc (.cells #[.int .i64 s.kind, .int .i64 s.sector, .int .i64 s.dump] 83)), x.1.cell? ⟨wr.heap.size, 2, none⟩ = some (.int .i64 s.dump) := fun x => Wb.cell (by simp) x
        have eb : ∀ x : Wb (wr.alloc (.cells #[.int .i64 s.kind, .int .i64 s.sector, .int .i64 s.dump] 83)), x.1.cell? ⟨w.heap.size, 0, none⟩ = some (.slice (some ⟨g, 0, none⟩) l.length c) := fun x => Wb.cell ((World.cell?_alloc_old _ _ _ (by show w.heap.size ≠ _; omega)).trans pb) x
        have ep : 0 < k → ∀ x : Wb (wr.alloc (.cells #[.int .i64 s.kind, .int .i64 s.sector, .int .i64 s.dump] 83)), x.1.cell? ⟨g, (k - 1) * 3 + 1, none⟩ = some (.int .i64 last) := fun h x => Wb.cell ((World.cell?_alloc_old _ _ _ (by show g ≠ _; omega)).trans (pp h)) x
        have hbw : ∀ w1, Below (wr.alloc (.cells #[.int .i64 s.kind, .int .i64 s.sector, .int .i64 s.dump] 83)).heap.size (wr.alloc (.cells #[.int .i64 s.kind, .int .i64 s.sector, .int .i64 s.dump] 83)) w1 → Below (w.heap.size + 1) (w.alloc (.cells #[.slice (some ⟨g, 0, none⟩) l.length c] 47)) w1 := fun w1 h => (hb.alloc zr _).trans (h.mono (by simp; omega))
        have hbf : ∀ w1, Below (w.heap.size + 1) (w.alloc (.cells #[.slice (some ⟨g, 0, none⟩) l.length c] 47)) w1 → Below w.heap.size w w1 := fun w1 h => (Below.alloc (Below.refl _ _) (Nat.le_refl _) _).trans (h.mono (by omega))
        go_wp2_with (fail)
        clear pb pp p0 p1 p2
        cases ha : inB s.sector 0 127
        · have ha' := inB_no ha
          refine wp_region_wb (by kernel_rfl) (by kernel_rfl) ?_; (repeat (go_big_quiet_step ((go_at_call 51; exact Wb.same (within_i _ _ _ _))))); refine wpQuiet_nil ?_; intro w1 hw'; obtain ⟨⟨w2, hb1⟩, hw''⟩ := hw'; subst hw''
          have hb2 := hbw w1 hb1
          have hb3 := hbf w1 hb2
          go_wp2_with (go_at_call 51; refine (within_i _ _ _ _).mono ?_; rintro e w1 ⟨rfl, rfl⟩)
          go_ret
          exact ⟨ret_bool (cert_no HS.out HK (src_bad (by omega))).symm, hb3⟩
        · have ha' := inB_yes ha
          rcases Nat.eq_zero_or_pos k with rfl | hkp
          · have hl1 := hk0 rfl
            clear ep hk1 hk0
            cases hd : inB s.kind 1 4
            · have hd' := inB_no hd
              refine wp_region_wb (by kernel_rfl) (by kernel_rfl) ?_; (repeat (go_big_quiet_step ((go_at_call 51; exact Wb.same (within_i _ _ _ _))))); refine wpQuiet_nil ?_; intro w1 hw'; obtain ⟨⟨w2, hb1⟩, hw''⟩ := hw'; subst hw''
              have hb2 := hbw w1 hb1
              have hb3 := hbf w1 hb2
              go_wp2_with (go_at_call 51; refine (within_i _ _ _ _).mono ?_; rintro e w1 ⟨rfl, rfl⟩)
              go_ret
              exact ⟨ret_bool (cert_no HS.out HK (src_bad (by omega))).symm, hb3⟩
            · have hd' := inB_yes hd
              by_cases he : s.kind = 1
              · have he1 : (s.kind == 1) = true := by simp [he]
                have he2 : (s.kind != 1) = false := by simp [he]
                cases hf : inB s.dump 0 4
                · have hf' := inB_no hf
                  refine wp_region_wb (by kernel_rfl) (by kernel_rfl) ?_; (repeat (go_big_quiet_step ((go_at_call 51; exact Wb.same (within_i _ _ _ _))))); refine wpQuiet_nil ?_; intro w1 hw'; obtain ⟨⟨w2, hb1⟩, hw''⟩ := hw'; subst hw''
                  have hb2 := hbw w1 hb1
                  have hb3 := hbf w1 hb2
                  have q0 : w1.cell? ⟨wr.heap.size, 0, none⟩ = some (.int .i64 s.kind) := e0 ⟨w1, hb1⟩
                  have q2 : w1.cell? ⟨wr.heap.size, 2, none⟩ = some (.int .i64 s.dump) := e2 ⟨w1, hb1⟩
                  go_wp2_with (go_at_call 51; refine (within_i _ _ _ _).mono ?_; rintro e w1 ⟨rfl, rfl⟩)
                  go_ret
                  exact ⟨ret_bool (cert_no HS.out HK (src_bad (by omega))).symm, hb3⟩
                · have hf' := inB_yes hf
                  refine wp_region_wb (by kernel_rfl) (by kernel_rfl) ?_; (repeat (go_big_quiet_step ((go_at_call 51; exact Wb.same (within_i _ _ _ _))))); refine wpQuiet_nil ?_; intro w1 hw'; obtain ⟨⟨w2, hb1⟩, hw''⟩ := hw'; subst hw''
                  have hb2 := hbw w1 hb1
                  have hb3 := hbf w1 hb2
                  have q0 : w1.cell? ⟨wr.heap.size, 0, none⟩ = some (.int .i64 s.kind) := e0 ⟨w1, hb1⟩
                  have q2 : w1.cell? ⟨wr.heap.size, 2, none⟩ = some (.int .i64 s.dump) := e2 ⟨w1, hb1⟩
                  go_wp2_with (go_at_call 51; refine (within_i _ _ _ _).mono ?_; rintro e w1 ⟨rfl, rfl⟩)
                  go_roundw
                  case rel => exact ⟨_, s.sector, Nat.succ_le_of_lt hlt, by go_num, hb2, by omega, fun _ => ⟨by omega, s, HS.out, rfl⟩, cert_yes HS.out HK (src_good (by omega))⟩
                  case measure => simp [intOf]; omega
              · have he1 : (s.kind == 1) = false := by simp [he]
                have he2 : (s.kind != 1) = true := by simp [he]
                by_cases hg0 : s.dump = 0
                · have hg1 : (s.dump != 0) = false := by simp [hg0]
                  refine wp_region_wb (by kernel_rfl) (by kernel_rfl) ?_; (repeat (go_big_quiet_step ((go_at_call 51; exact Wb.same (within_i _ _ _ _))))); refine wpQuiet_nil ?_; intro w1 hw'; obtain ⟨⟨w2, hb1⟩, hw''⟩ := hw'; subst hw''
                  have hb2 := hbw w1 hb1
                  have hb3 := hbf w1 hb2
                  have q0 : w1.cell? ⟨wr.heap.size, 0, none⟩ = some (.int .i64 s.kind) := e0 ⟨w1, hb1⟩
                  have q2 : w1.cell? ⟨wr.heap.size, 2, none⟩ = some (.int .i64 s.dump) := e2 ⟨w1, hb1⟩
                  go_wp2_with (go_at_call 51; refine (within_i _ _ _ _).mono ?_; rintro e w1 ⟨rfl, rfl⟩)
                  go_roundw
                  case rel => exact ⟨_, s.sector, Nat.succ_le_of_lt hlt, by go_num, hb2, by omega, fun _ => ⟨by omega, s, HS.out, rfl⟩, cert_yes HS.out HK (src_good (by omega))⟩
                  case measure => simp [intOf]; omega
                · have hg1 : (s.dump != 0) = true := by simp [hg0]
                  refine wp_region_wb (by kernel_rfl) (by kernel_rfl) ?_; (repeat (go_big_quiet_step ((go_at_call 51; exact Wb.same (within_i _ _ _ _))))); refine wpQuiet_nil ?_; intro w1 hw'; obtain ⟨⟨w2, hb1⟩, hw''⟩ := hw'; subst hw''
                  have hb2 := hbw w1 hb1
                  have hb3 := hbf w1 hb2
                  have q0 : w1.cell? ⟨wr.heap.size, 0, none⟩ = some (.int .i64 s.kind) := e0 ⟨w1, hb1⟩
                  have q2 : w1.cell? ⟨wr.heap.size, 2, none⟩ = some (.int .i64 s.dump) := e2 ⟨w1, hb1⟩
                  go_wp2_with (go_at_call 51; refine (within_i _ _ _ _).mono ?_; rintro e w1 ⟨rfl, rfl⟩)
                  go_ret
                  exact ⟨ret_bool (cert_no HS.out HK (src_bad (by omega))).symm, hb3⟩
          · have ep' := ep hkp
            have hl1 := (hk1 hkp).1
            clear ep hk1 hk0
            obtain ⟨j, rfl⟩ : ∃ j, k = j + 1 := ⟨k - 1, by omega⟩
            rw [Nat.add_sub_cancel] at ep'
            cases hc0 : decide (s.sector ≤ last)
            · have hc1 := of_decide_eq_false hc0
              cases hd : inB s.kind 1 4
              · have hd' := inB_no hd
                refine wp_region_wb (by kernel_rfl) (by kernel_rfl) ?_; (repeat (go_big_quiet_step ((go_at_call 51; exact Wb.same (within_i _ _ _ _))))); refine wpQuiet_nil ?_; intro w1 hw'; obtain ⟨⟨w2, hb1⟩, hw''⟩ := hw'; subst hw''
                have hb2 := hbw w1 hb1
                have hb3 := hbf w1 hb2
                go_wp2_with (go_at_call 51; refine (within_i _ _ _ _).mono ?_; rintro e w1 ⟨rfl, rfl⟩)
                go_ret
                exact ⟨ret_bool (cert_no HS.out HK (src_bad (by omega))).symm, hb3⟩
              · have hd' := inB_yes hd
                by_cases he : s.kind = 1
                · have he1 : (s.kind == 1) = true := by simp [he]
                  have he2 : (s.kind != 1) = false := by simp [he]
                  cases hf : inB s.dump 0 4
                  · have hf' := inB_no hf
                    refine wp_region_wb (by kernel_rfl) (by kernel_rfl) ?_; (repeat (go_big_quiet_step ((go_at_call 51; exact Wb.same (within_i _ _ _ _))))); refine wpQuiet_nil ?_; intro w1 hw'; obtain ⟨⟨w2, hb1⟩, hw''⟩ := hw'; subst hw''
                    have hb2 := hbw w1 hb1
                    have hb3 := hbf w1 hb2
                    have q0 : w1.cell? ⟨wr.heap.size, 0, none⟩ = some (.int .i64 s.kind) := e0 ⟨w1, hb1⟩
                    have q2 : w1.cell? ⟨wr.heap.size, 2, none⟩ = some (.int .i64 s.dump) := e2 ⟨w1, hb1⟩
                    go_wp2_with (go_at_call 51; refine (within_i _ _ _ _).mono ?_; rintro e w1 ⟨rfl, rfl⟩)
                    go_ret
                    exact ⟨ret_bool (cert_no HS.out HK (src_bad (by omega))).symm, hb3⟩
                  · have hf' := inB_yes hf
                    refine wp_region_wb (by kernel_rfl) (by kernel_rfl) ?_; (repeat (go_big_quiet_step ((go_at_call 51; exact Wb.same (within_i _ _ _ _))))); refine wpQuiet_nil ?_; intro w1 hw'; obtain ⟨⟨w2, hb1⟩, hw''⟩ := hw'; subst hw''
                    have hb2 := hbw w1 hb1
                    have hb3 := hbf w1 hb2
                    have q0 : w1.cell? ⟨wr.heap.size, 0, none⟩ = some (.int .i64 s.kind) := e0 ⟨w1, hb1⟩
                    have q2 : w1.cell? ⟨wr.heap.size, 2, none⟩ = some (.int .i64 s.dump) := e2 ⟨w1, hb1⟩
                    go_wp2_with (go_at_call 51; refine (within_i _ _ _ _).mono ?_; rintro e w1 ⟨rfl, rfl⟩)
                    go_roundw
                    case rel => exact ⟨_, s.sector, Nat.succ_le_of_lt hlt, by go_num, hb2, by omega, fun _ => ⟨by omega, s, HS.out, rfl⟩, cert_yes HS.out HK (src_good (by omega))⟩
                    case measure => simp [intOf]; omega
                · have he1 : (s.kind == 1) = false := by simp [he]
                  have he2 : (s.kind != 1) = true := by simp [he]
                  by_cases hg0 : s.dump = 0
                  · have hg1 : (s.dump != 0) = false := by simp [hg0]
                    refine wp_region_wb (by kernel_rfl) (by kernel_rfl) ?_; (repeat (go_big_quiet_step ((go_at_call 51; exact Wb.same (within_i _ _ _ _))))); refine wpQuiet_nil ?_; intro w1 hw'; obtain ⟨⟨w2, hb1⟩, hw''⟩ := hw'; subst hw''
                    have hb2 := hbw w1 hb1
                    have hb3 := hbf w1 hb2
                    have q0 : w1.cell? ⟨wr.heap.size, 0, none⟩ = some (.int .i64 s.kind) := e0 ⟨w1, hb1⟩
                    have q2 : w1.cell? ⟨wr.heap.size, 2, none⟩ = some (.int .i64 s.dump) := e2 ⟨w1, hb1⟩
                    go_wp2_with (go_at_call 51; refine (within_i _ _ _ _).mono ?_; rintro e w1 ⟨rfl, rfl⟩)
                    go_roundw
                    case rel => exact ⟨_, s.sector, Nat.succ_le_of_lt hlt, by go_num, hb2, by omega, fun _ => ⟨by omega, s, HS.out, rfl⟩, cert_yes HS.out HK (src_good (by omega))⟩
                    case measure => simp [intOf]; omega
                  · have hg1 : (s.dump != 0) = true := by simp [hg0]
                    refine wp_region_wb (by kernel_rfl) (by kernel_rfl) ?_; (repeat (go_big_quiet_step ((go_at_call 51; exact Wb.same (within_i _ _ _ _))))); refine wpQuiet_nil ?_; intro w1 hw'; obtain ⟨⟨w2, hb1⟩, hw''⟩ := hw'; subst hw''
                    have hb2 := hbw w1 hb1
                    have hb3 := hbf w1 hb2
                    have q0 : w1.cell? ⟨wr.heap.size, 0, none⟩ = some (.int .i64 s.kind) := e0 ⟨w1, hb1⟩
                    have q2 : w1.cell? ⟨wr.heap.size, 2, none⟩ = some (.int .i64 s.dump) := e2 ⟨w1, hb1⟩
                    go_wp2_with (go_at_call 51; refine (within_i _ _ _ _).mono ?_; rintro e w1 ⟨rfl, rfl⟩)
                    go_ret
                    exact ⟨ret_bool (cert_no HS.out HK (src_bad (by omega))).symm, hb3⟩
            · have hc1 := of_decide_eq_true hc0
              refine wp_region_wb (by kernel_rfl) (by kernel_rfl) ?_; (repeat (go_big_quiet_step ((go_at_call 51; exact Wb.same (within_i _ _ _ _))))); refine wpQuiet_nil ?_; intro w1 hw'; obtain ⟨⟨w2, hb1⟩, hw''⟩ := hw'; subst hw''
              have hb2 := hbw w1 hb1
              have hb3 := hbf w1 hb2
              go_wp2_with (go_at_call 51; refine (within_i _ _ _ _).mono ?_; rintro e w1 ⟨rfl, rfl⟩)
              go_ret
              exact ⟨ret_bool (cert_no HS.out HK (src_bad (by omega))).symm, hb3⟩
      · go_wp2
        go_ret
        exact ⟨ret_bool (cert_end (by omega) HK).symm, (Below.alloc (Below.refl _ _) (Nat.le_refl _) _).trans (hb.mono (by omega))⟩
end Go.Proofs.YtfcdienphillnaaGreat
namespace Go.Proofs.YtfcdienphillnaaGreat
set_option linter.unusedVariables false
set_option linter.unusedSimpArgs false
open Go.RowKit
set_option maxRecDepth 20000 in
set_option maxHeartbeats 4000000 in
theorem certp_s (gb c : Nat) (A : Option Addr) (l : List Src) (w : World) (hbox : w.cell? ⟨gb, 0, none⟩ = some (.slice A l.length c)) (hA : l = [] ∨ ∃ g, A = some ⟨g, 0, none⟩ ∧ g < w.heap.size ∧ ∀ (k : Nat) (s : Src) (j : Nat) (u : Value), l[k]? = some s → s.cells[j]? = some u → w.cell? ⟨g, k * 3 + j, none⟩ = some u) (hn : l.length ≤ 1048576) :
    Calls Tryz.prog 75 #[.pointer (some ⟨gb, 0, none⟩)] w fun e w' => e = .returned (.bool (certOk l)) ∧ Below w.heap.size w w' := by
  have hgb := World.block_lt_of_cell? w _ hbox
  by_cases hl0 : l = []
  · subst hl0
    go_enter Tryz.func75, Tryz.ntmps75
    go_wp2
    refine wp_loop_once ?_
    go_wp2
    go_ret
    exact ⟨rfl, (by repeat (first | exact Below.refl _ _ | refine Below.alloc ?_ (by first | omega | (simp; done) | (simp; omega)) _ | apply Below.drew | apply below_drewN | refine Below.setCell ?_ (by first | omega | (simp; done) | (simp; omega)) _ | refine Below.trans ?_ (Below.mono (by assumption) (by first | omega | (simp; done) | (simp; omega)))))⟩
  · obtain ⟨g, rfl, hg, hc⟩ := hA.resolve_left hl0
    have HC := Lib.hid hc
    clear hA hc
    go_enter Tryz.func75, Tryz.ntmps75
    go_wp2
    go_loopw [4, 3] (fun i y wr => ∃ (k : Nat) (last : Int), k ≤ l.length ∧ i = .int .i64 k ∧ y = .int .i64 last ∧ -1 ≤ last ∧ last ≤ 127 ∧ Below w.heap.size w wr ∧ Hid (certOk l = certFrom last (l.drop k))) (fun i _ _ => l.length - (intOf i).toNat)
    case atStart => exact ⟨0, -1, by omega, rfl, rfl, by omega, by omega, Below.refl _ _, Lib.hid rfl⟩
    case round =>
      obtain ⟨k, last, hk, rfl, rfl, hlast, hlast2, hb, HK⟩ := hrel
      have zr := hb.size
      have pb := (hb.cell (p := ⟨gb, 0, none⟩) hgb).trans hbox
      by_cases hlt : k < l.length
      · obtain ⟨s, hs⟩ : ∃ s, l[k]? = some s := ⟨l[k], List.getElem?_eq_getElem hlt⟩
        have HS := Lib.hid hs
        have p0 := (hb.cell (p := ⟨g, k * 3, none⟩) hg).trans (HC.out k s 0 _ hs rfl)
        have p1 := (hb.cell (p := ⟨g, k * 3 + 1, none⟩) hg).trans (HC.out k s 1 _ hs rfl)
        have p2 := (hb.cell (p := ⟨g, k * 3 + 2, none⟩) hg).trans (HC.out k s 2 _ hs rfl)
        have hbf : Below w.heap.size w (wr.alloc (.cells #[.int .i64 s.kind, .int .i64 s.sector, .int .i64 s.dump] 83)) := hb.alloc zr _
        clear hs
        cases hd : inB s.kind 1 4
        · have hd' := inB_no hd
          go_wp2_with (go_at_call 43; refine (in_s _ _ _ _).mono ?_; rintro e w1 ⟨rfl, rfl⟩)
          go_ret
          exact ⟨ret_bool (cert_no HS.out HK (src_bad (by omega))).symm, hbf⟩
        · have hd' := inB_yes hd
          cases ha : inB s.sector (last + 1) 127
          · have ha' := inB_no ha
            go_wp2_with (go_at_call 43; refine (in_s _ _ _ _).mono ?_; rintro e w1 ⟨rfl, rfl⟩)
            go_ret
            exact ⟨ret_bool (cert_no HS.out HK (src_bad (by omega))).symm, hbf⟩
          · have ha' := inB_yes ha
            cases hf : inB s.dump 0 4
            · have hf' := inB_no hf
              go_wp2_with (go_at_call 43; refine (in_s _ _ _ _).mono ?_; rintro e w1 ⟨rfl, rfl⟩)
              go_ret
              exact ⟨ret_bool (cert_no HS.out HK (src_bad (by omega))).symm, hbf⟩
            · have hf' := inB_yes hf
              by_cases hg0 : s.dump = 0
              · have hg1 : (s.dump != 0) = false := by simp [hg0]
                have HG := Lib.hid hg0
                clear hg0
                go_wp2_with (go_at_call 43; refine (in_s _ _ _ _).mono ?_; rintro e w1 ⟨rfl, rfl⟩)
                go_roundw
                case rel => exact ⟨_, s.sector, Nat.succ_le_of_lt hlt, by go_num, rfl, by omega, by omega, hbf, cert_yes HS.out HK (src_good (by have := HG.out; omega))⟩
                case measure => simp [intOf]; omega
              · have hg1 : (s.dump != 0) = true := by simp [hg0]
                by_cases he : s.kind = 1
                · have he1 : (s.kind != 1) = false := by simp [he]
                  have HE := Lib.hid he
                  clear he
                  go_wp2_with (go_at_call 43; refine (in_s _ _ _ _).mono ?_; rintro e w1 ⟨rfl, rfl⟩)
                  go_roundw
                  case rel => exact ⟨_, s.sector, Nat.succ_le_of_lt hlt, by go_num, rfl, by omega, by omega, hbf, cert_yes HS.out HK (src_good (by have := HE.out; omega))⟩
                  case measure => simp [intOf]; omega
                · have he1 : (s.kind != 1) = true := by simp [he]
                  go_wp2_with (go_at_call 43; refine (in_s _ _ _ _).mono ?_; rintro e w1 ⟨rfl, rfl⟩)
                  go_ret
                  exact ⟨ret_bool (cert_no HS.out HK (src_bad (by omega))).symm, hbf⟩
      · go_wp2
        go_ret
        exact ⟨ret_bool (cert_end (by omega) HK).symm, hb⟩
end Go.Proofs.YtfcdienphillnaaGreat
namespace Go.Proofs.YtfcdienphillnaaGreat
set_option linter.unusedVariables false
set_option linter.unusedSimpArgs false
open Go.RowKit

/-- the digits of k, put before out -/
def mtd : Nat → Nat → ByteArray → ByteArray
  | 0, _, out => out
  | f + 1, k, out => if k = 0 then out else mtd f (k / 10) (strOfNums [48 + (k : Int) % 10] ++ out)
def mt (k : Nat) : ByteArray := strOfNums [109] ++ mtd k k .empty
theorem mtd_next {n f k : Nat} {s : ByteArray} (hk : 0 < k) (H : Hid (mtd n n .empty = mtd (f + 1) k s)) : Hid (mtd n n .empty = mtd f (k / 10) (strOfNums [48 + (k : Int) % 10] ++ s)) :=
  Lib.hid (by rw [H.out, mtd, if_neg (by omega)])
theorem mtd_end {n f : Nat} {s : ByteArray} (H : Hid (mtd n n .empty = mtd f 0 s)) : Ending.returned (.string ({ data := #[109] } ++ s)) = .returned (.string (mt n)) := by
  have e : mtd n n .empty = s := by rw [H.out]; cases f <;> simp [mtd]
  unfold mt; rw [e]; rfl
theorem conv1 (w : World) (x : Int) : (convert 65 9 (.slice (some ⟨w.heap.size, 0, none⟩) 1 1)).run Tryz.prog (w.alloc (.cells #[.int .u8 x] 5)) = .ok (.string (strOfNums [x])) (w.alloc (.cells #[.int .u8 x] 5)) :=
  run_convert_bytes_arg _ 65 5 Tryz.underlying65 Tryz.underlying5 _ 0 1 1 [x] rfl (fun i hi => by
    obtain rfl : i = 0 := by omega
    simp) 9 Tryz.underlying9
set_option maxHeartbeats 2000000 in
theorem mark_any (n : Nat) (w : World) (h0 : 1 ≤ n) (h : n ≤ 268435456) :
    Calls Tryz.prog 108 #[.int .i64 n] w fun e w' => e = .returned (.string (mt n)) ∧ Below w.heap.size w w' := by
  have hcv := conv1
  go_enter Tryz.func108, Tryz.ntmps108
  go_wp2
  go_loopw [0, 3] (fun i out wr => ∃ (k f : Nat) (s : ByteArray), k ≤ n ∧ k ≤ f ∧ i = .int .i64 k ∧ out = .string s ∧ s.size + f ≤ n ∧ Below w.heap.size w wr ∧ Hid (mtd n n .empty = mtd f k s)) (fun i _ _ => (intOf i).toNat)
  case atStart => exact ⟨n, n, _, by omega, by omega, rfl, rfl, Nat.le_of_eq (Nat.zero_add n), (by repeat (first | exact Below.refl _ _ | refine Below.alloc ?_ (by first | omega | (simp; done) | (simp; omega)) _ | apply Below.drew | apply below_drewN | refine Below.setCell ?_ (by first | omega | (simp; done) | (simp; omega)) _ | refine Below.trans ?_ (Below.mono (by assumption) (by first | omega | (simp; done) | (simp; omega))))), Lib.hid rfl⟩
  case round =>
    obtain ⟨k, f, s, hk, hf, rfl, rfl, hs, hb, HK⟩ := hrel
    have hz := hb.size
    by_cases hlt : 0 < k
    · have hsa : ∀ x y : ByteArray, (x ++ y).size = x.size + y.size := fun _ _ => ByteArray.size_append
      have hss : ∀ x : Int, (strOfNums [x]).size = 1 := fun x => rfl
      obtain ⟨f', rfl⟩ : ∃ f', f = f' + 1 := ⟨f - 1, by omega⟩
      go_wp2
      go_roundw
      case rel => exact ⟨k / 10, f', strOfNums [48 + (k : Int) % 10] ++ s, by omega, by omega, by go_num, rfl, by rw [hsa, hss]; omega, (by repeat (first | exact Below.refl _ _ | refine Below.alloc ?_ (by first | omega | (simp; done) | (simp; omega)) _ | apply Below.drew | apply below_drewN | refine Below.setCell ?_ (by first | omega | (simp; done) | (simp; omega)) _ | refine Below.trans ?_ (Below.mono (by assumption) (by first | omega | (simp; done) | (simp; omega))))), mtd_next hlt HK⟩
      case measure => simp [intOf]; omega
    · obtain rfl : k = 0 := by omega
      go_wp2
      go_ret
      exact ⟨mtd_end HK, (by repeat (first | exact Below.refl _ _ | refine Below.alloc ?_ (by first | omega | (simp; done) | (simp; omega)) _ | apply Below.drew | apply below_drewN | refine Below.setCell ?_ (by first | omega | (simp; done) | (simp; omega)) _ | refine Below.trans ?_ (Below.mono (by assumption) (by first | omega | (simp; done) | (simp; omega)))))⟩
end Go.Proofs.YtfcdienphillnaaGreat
namespace Go.Proofs.YtfcdienphillnaaGreat
set_option linter.unusedVariables false
set_option linter.unusedSimpArgs false
open Go.RowKit
structure Sec where
  data : ByteArray
  state : Int
def Sec.cells (e : Sec) : List Value := [.string e.data, .int .i64 e.state]
end Go.Proofs.YtfcdienphillnaaGreat
