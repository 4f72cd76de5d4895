/- Discs that are valid, the reference: the walks. -/
import Derived.Test.YtjkfkjbakokjeaaVDisc
namespace Go.Proofs.Ytjkfkjbakokjeaa
set_option linter.unusedVariables false
open Go.RowKit
set_option maxRecDepth 20000 in
set_option maxHeartbeats 4000000 in
theorem discp_s (d : Dsc) (gb c : Nat) (A : Option Addr) (w : World) (p0 : w.cell? ⟨gb, 0, none⟩ = some (.int .i64 d.cyl)) (p1 : w.cell? ⟨gb, 1, none⟩ = some (.int .i64 d.heads)) (p2 : w.cell? ⟨gb, 2, none⟩ = some (.int .i64 d.per)) (p3 : w.cell? ⟨gb, 3, none⟩ = some (.int .i64 d.size)) (p4 : w.cell? ⟨gb, 4, none⟩ = some (.slice A d.secs.length c))
    (hA : d.secs = [] ∨ ∃ g, A = some ⟨g, 0, none⟩ ∧ g < w.heap.size ∧ ∀ (k : Nat) (s : Sec), d.secs[k]? = some s → w.cell? ⟨g, k * 2, none⟩ = some (.string s.data) ∧ w.cell? ⟨g, k * 2 + 1, none⟩ = some (.int .i64 s.state))
    (hn : d.secs.length ≤ 1048576) (hm : ∀ s ∈ d.secs, s.data.size ≤ maxLen) :
    Calls Try.prog 36 #[.pointer (some ⟨gb, 0, none⟩)] w fun e w' => e = .returned (.bool (discOk d)) ∧ Below w.heap.size w w' := by
  have hgb := World.block_lt_of_cell? w _ p0
  have e0 : ∀ x : Wb w, x.1.cell? ⟨gb, 0, none⟩ = some (.int .i64 d.cyl) := fun x => Wb.cell p0 x
  have e1 : ∀ x : Wb w, x.1.cell? ⟨gb, 1, none⟩ = some (.int .i64 d.heads) := fun x => Wb.cell p1 x
  have e2 : ∀ x : Wb w, x.1.cell? ⟨gb, 2, none⟩ = some (.int .i64 d.per) := fun x => Wb.cell p2 x
  have e3 : ∀ x : Wb w, x.1.cell? ⟨gb, 3, none⟩ = some (.int .i64 d.size) := fun x => Wb.cell p3 x
  have e4 : ∀ x : Wb w, x.1.cell? ⟨gb, 4, none⟩ = some (.slice A d.secs.length c) := fun x => Wb.cell p4 x
  cases h1 : geoB d.cyl d.heads d.per d.size
  · have HF := Lib.hid (dk_no1 h1)
    go_enter Try.func36, Try.ntmps36
    go_wp2_with (fail)
    refine wp_region_wb (by kernel_rfl) (by kernel_rfl) ?_; (repeat (go_big_quiet_step (first | (go_at_call 59; exact Wb.same (geo_s _ _ _ _ _))))); refine wpQuiet_nil ?_; rintro w1 ⟨⟨w1', hb1⟩, rfl⟩
    go_wp2
    go_ret
    exact ⟨ret_bool HF.out.symm, hb1⟩
  · obtain ⟨g1, g2, g3, g4⟩ := geo_parts h1
    obtain ⟨m1, m2⟩ := prod_bd g1 g2 g3
    cases h2 : ((d.secs.length : Int) == d.cyl * d.heads * d.per)
    · have HF := Lib.hid (dk_no2 h2)
      have h2' : ((d.secs.length : Int) != d.cyl * d.heads * d.per) = true := by unfold bne; rw [h2]; rfl
      go_enter Try.func36, Try.ntmps36
      go_wp2_with (fail)
      refine wp_region_wb (by kernel_rfl) (by kernel_rfl) ?_; (repeat (go_big_quiet_step (first | (go_at_call 59; exact Wb.same (geo_s _ _ _ _ _))))); refine wpQuiet_nil ?_; rintro w1 ⟨⟨w1', hb1⟩, rfl⟩
      go_wp2
      go_ret
      exact ⟨ret_bool HF.out.symm, hb1⟩
    · have HF := Lib.hid (dk_yes h1 h2)
      have h2' : ((d.secs.length : Int) != d.cyl * d.heads * d.per) = false := by unfold bne; rw [h2]; rfl
      go_enter Try.func36, Try.ntmps36
      go_wp2_with (fail)
      refine wp_region_wb (by kernel_rfl) (by kernel_rfl) ?_; (repeat (go_big_quiet_step (first | (go_at_call 59; exact Wb.same (geo_s _ _ _ _ _))))); refine wpQuiet_nil ?_; rintro w1 ⟨⟨w1', hb1⟩, rfl⟩
      have z1 := hb1.size
      clear e0 e1 e2 e3 e4 h2 h2' h1
      go_wp2
      go_loopw [3] (fun i wr => ∃ k : Nat, k ≤ d.secs.length ∧ i = .int .i64 k ∧ Below w.heap.size w wr ∧ Hid (discOk d = (d.secs.drop k).all fun s => secOk s (szN d.size))) (fun i _ => d.secs.length - (intOf i).toNat)
      case atStart => exact ⟨0, by omega, rfl, hb1, HF⟩
      case round =>
        obtain ⟨k, hk, rfl, hb, HK⟩ := hrel
        have zr := hb.size
        have r4 := (hb.cell (p := ⟨gb, 4, none⟩) hgb).trans p4
        by_cases hlt : k < d.secs.length
        · obtain ⟨s, hs⟩ : ∃ s, d.secs[k]? = some s := ⟨d.secs[k], List.getElem?_eq_getElem hlt⟩
          obtain ⟨g, rfl, hg, hc⟩ := hA.resolve_left (by intro h0; rw [h0] at hlt; simp at hlt)
          obtain ⟨c0, c1⟩ := hc k s hs
          have f3 : ∀ x : Wb wr, x.1.cell? ⟨gb, 3, none⟩ = some (.int .i64 d.size) := fun x => Wb.cell ((hb.cell (p := ⟨gb, 3, none⟩) hgb).trans p3) x
          have f4 : ∀ x : Wb wr, x.1.cell? ⟨gb, 4, none⟩ = some (.slice (some ⟨g, 0, none⟩) d.secs.length c) := fun x => Wb.cell r4 x
          have q0 : ∀ x : Wb wr, x.1.cell? ⟨g, k * 2, none⟩ = some (.string s.data) := fun x => Wb.cell ((hb.cell (p := ⟨g, _, none⟩) hg).trans c0) x
          have q1 : ∀ x : Wb wr, x.1.cell? ⟨g, k * 2 + 1, none⟩ = some (.int .i64 s.state) := fun x => Wb.cell ((hb.cell (p := ⟨g, _, none⟩) hg).trans c1) x
          have hz := szN_le g4
          have hms := hm s (List.mem_of_getElem? hs)
          have hsec := fun W => sec_s s (szN d.size) W (by omega) hms
          have HS := Lib.hid hs
          clear c0 c1 hs hc hA
          cases h5 : secOk s (szN d.size)
          · have HN := da_no HS.out HK h5
            rw [h5] at hsec
            go_wp2_with (fail)
            refine wp_region_wb (by kernel_rfl) (by kernel_rfl) ?_; (repeat (go_big_quiet_step (first | (go_at_call 61; exact Wb.same (bytes_s d.size _ g4)) | (go_at_call 60; exact Wb.calls (hsec _))))); refine wpQuiet_nil ?_; rintro w2 ⟨⟨w2', hb2⟩, rfl⟩
            go_wp2
            go_ret
            exact ⟨ret_bool HN.symm, hb.trans (hb2.mono zr)⟩
          · have HN := da_yes HS.out HK h5
            rw [h5] at hsec
            go_wp2_with (fail)
            refine wp_region_wb (by kernel_rfl) (by kernel_rfl) ?_; (repeat (go_big_quiet_step (first | (go_at_call 61; exact Wb.same (bytes_s d.size _ g4)) | (go_at_call 60; exact Wb.calls (hsec _))))); refine wpQuiet_nil ?_; rintro w2 ⟨⟨w2', hb2⟩, rfl⟩
            go_wp2
            go_roundw
            case rel => exact ⟨k + 1, by omega, by go_num, hb.trans (hb2.mono zr), HN⟩
            case measure => simp [intOf]; omega
        · go_wp2
          go_ret
          exact ⟨ret_bool (da_end (by omega) HK).symm, hb⟩
end Go.Proofs.Ytjkfkjbakokjeaa
