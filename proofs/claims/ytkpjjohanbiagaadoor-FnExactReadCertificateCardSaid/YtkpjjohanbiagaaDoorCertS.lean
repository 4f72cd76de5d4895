/- ValidCertificate of the reference: the walk. -/
import Derived.Test.YtkpjjohanbiagaaDoorCertV
namespace Go.Proofs.YtkpjjohanbiagaaDoor
set_option linter.unusedVariables false
set_option linter.unusedSimpArgs false
open Go.RowKit
set_option maxRecDepth 20000 in
set_option maxHeartbeats 4000000 in
theorem certp_s (gb c : Nat) (A : Option Addr) (l : List Src) (w : World) (hbox : w.cell? ⟨gb, 0, none⟩ = some (.slice A l.length c)) (hA : l = [] ∨ ∃ g, A = some ⟨g, 0, none⟩ ∧ g < w.heap.size ∧ ∀ (k : Nat) (s : Src) (j : Nat) (u : Value), l[k]? = some s → s.cells[j]? = some u → w.cell? ⟨g, k * 3 + j, none⟩ = some u) (hn : l.length ≤ 1048576) :
    Calls Tryd.prog 27 #[.pointer (some ⟨gb, 0, none⟩)] w fun e w' => e = .returned (.bool (certOk l)) ∧ Below w.heap.size w w' := by
  have hgb := World.block_lt_of_cell? w _ hbox
  by_cases hl0 : l = []
  · subst hl0
    go_enter Tryd.func27, Tryd.ntmps27
    go_wp2
    refine wp_loop_once ?_
    go_wp2
    go_ret
    exact ⟨rfl, (by repeat (first | exact Below.refl _ _ | refine Below.alloc ?_ (by first | omega | (simp; done) | (simp; omega)) _ | apply Below.drew | apply below_drewN | refine Below.setCell ?_ (by first | omega | (simp; done) | (simp; omega)) _ | refine Below.trans ?_ (Below.mono (by assumption) (by first | omega | (simp; done) | (simp; omega)))))⟩
  · obtain ⟨g, rfl, hg, hc⟩ := hA.resolve_left hl0
    have HC := Lib.hid hc
    clear hA hc
    go_enter Tryd.func27, Tryd.ntmps27
    go_wp2
    go_loopw [4, 3] (fun i y wr => ∃ (k : Nat) (last : Int), k ≤ l.length ∧ i = .int .i64 k ∧ y = .int .i64 last ∧ -1 ≤ last ∧ last ≤ 127 ∧ Below w.heap.size w wr ∧ Hid (certOk l = certFrom last (l.drop k))) (fun i _ _ => l.length - (intOf i).toNat)
    case atStart => exact ⟨0, -1, by omega, rfl, rfl, by omega, by omega, Below.refl _ _, Lib.hid rfl⟩
    case round =>
      obtain ⟨k, last, hk, rfl, rfl, hlast, hlast2, hb, HK⟩ := hrel
      have zr := hb.size
      have pb := (hb.cell (p := ⟨gb, 0, none⟩) hgb).trans hbox
      by_cases hlt : k < l.length
      · obtain ⟨s, hs⟩ : ∃ s, l[k]? = some s := ⟨l[k], List.getElem?_eq_getElem hlt⟩
        have HS := Lib.hid hs
        have p0 := (hb.cell (p := ⟨g, k * 3, none⟩) hg).trans (HC.out k s 0 _ hs rfl)
        have p1 := (hb.cell (p := ⟨g, k * 3 + 1, none⟩) hg).trans (HC.out k s 1 _ hs rfl)
        have p2 := (hb.cell (p := ⟨g, k * 3 + 2, none⟩) hg).trans (HC.out k s 2 _ hs rfl)
        have hbf : Below w.heap.size w (wr.alloc (.cells #[.int .i64 s.kind, .int .i64 s.sector, .int .i64 s.dump] 54)) := hb.alloc zr _
        clear hs
        cases hd : inB s.kind 1 4
        · have hd' := inB_no hd
          go_wp2_with (go_at_call 56; refine (in_s _ _ _ _).mono ?_; rintro e w1 ⟨rfl, rfl⟩)
          go_ret
          exact ⟨ret_bool (cert_no HS.out HK (src_bad (by omega))).symm, hbf⟩
        · have hd' := inB_yes hd
          cases ha : inB s.sector (last + 1) 127
          · have ha' := inB_no ha
            go_wp2_with (go_at_call 56; refine (in_s _ _ _ _).mono ?_; rintro e w1 ⟨rfl, rfl⟩)
            go_ret
            exact ⟨ret_bool (cert_no HS.out HK (src_bad (by omega))).symm, hbf⟩
          · have ha' := inB_yes ha
            cases hf : inB s.dump 0 4
            · have hf' := inB_no hf
              go_wp2_with (go_at_call 56; refine (in_s _ _ _ _).mono ?_; rintro e w1 ⟨rfl, rfl⟩)
              go_ret
              exact ⟨ret_bool (cert_no HS.out HK (src_bad (by omega))).symm, hbf⟩
            · have hf' := inB_yes hf
              by_cases hg0 : s.dump = 0
              · have hg1 : (s.dump != 0) = false := by simp [hg0]
                have HG := Lib.hid hg0
                clear hg0
                go_wp2_with (go_at_call 56; refine (in_s _ _ _ _).mono ?_; rintro e w1 ⟨rfl, rfl⟩)
                go_roundw
                case rel => exact ⟨_, s.sector, Nat.succ_le_of_lt hlt, by go_num, rfl, by omega, by omega, hbf, cert_yes HS.out HK (src_good (by have := HG.out; omega))⟩
                case measure => simp [intOf]; omega
              · have hg1 : (s.dump != 0) = true := by simp [hg0]
                by_cases he : s.kind = 1
                · have he1 : (s.kind != 1) = false := by simp [he]
                  have HE := Lib.hid he
                  clear he
                  go_wp2_with (go_at_call 56; refine (in_s _ _ _ _).mono ?_; rintro e w1 ⟨rfl, rfl⟩)
                  go_roundw
                  case rel => exact ⟨_, s.sector, Nat.succ_le_of_lt hlt, by go_num, rfl, by omega, by omega, hbf, cert_yes HS.out HK (src_good (by have := HE.out; omega))⟩
                  case measure => simp [intOf]; omega
                · have he1 : (s.kind != 1) = true := by simp [he]
                  go_wp2_with (go_at_call 56; refine (in_s _ _ _ _).mono ?_; rintro e w1 ⟨rfl, rfl⟩)
                  go_ret
                  exact ⟨ret_bool (cert_no HS.out HK (src_bad (by omega))).symm, hbf⟩
      · go_wp2
        go_ret
        exact ⟨ret_bool (cert_end (by omega) HK).symm, hb⟩
end Go.Proofs.YtkpjjohanbiagaaDoor
