/- A disc behind any address, the reference: the walks. -/
import Derived.Test.YtjkfkjbakokjeaaVDiscS
import Derived.Test.YtjkfkjbakokjeaaVDumps
namespace Go.Proofs.Ytjkfkjbakokjeaa
set_option linter.unusedVariables false
open Go.RowKit
set_option maxRecDepth 20000 in
set_option maxHeartbeats 4000000 in
theorem discq_s (d : Dsc) (gb o c : Nat) (A : Option Addr) (w : World) (p0 : w.cell? ⟨gb, o, none⟩ = some (.int .i64 d.cyl)) (p1 : w.cell? ⟨gb, o + 1, none⟩ = some (.int .i64 d.heads)) (p2 : w.cell? ⟨gb, o + 2, none⟩ = some (.int .i64 d.per)) (p3 : w.cell? ⟨gb, o + 3, none⟩ = some (.int .i64 d.size)) (p4 : w.cell? ⟨gb, o + 4, none⟩ = some (.slice A d.secs.length c))
    (hA : d.secs = [] ∨ ∃ g, A = some ⟨g, 0, none⟩ ∧ g < w.heap.size ∧ ∀ (k : Nat) (s : Sec), d.secs[k]? = some s → w.cell? ⟨g, k * 2, none⟩ = some (.string s.data) ∧ w.cell? ⟨g, k * 2 + 1, none⟩ = some (.int .i64 s.state))
    (hn : d.secs.length ≤ 1048576) (hm : ∀ s ∈ d.secs, s.data.size ≤ maxLen) :
    Calls Try.prog 36 #[.pointer (some ⟨gb, o, none⟩)] w fun e w' => e = .returned (.bool (discOk d)) ∧ Below w.heap.size w w' := by
  have hgb := World.block_lt_of_cell? w _ p0
  have e0 : ∀ x : Wb w, x.1.cell? ⟨gb, o, none⟩ = some (.int .i64 d.cyl) := fun x => Wb.cell p0 x
  have e1 : ∀ x : Wb w, x.1.cell? ⟨gb, o + 1, none⟩ = some (.int .i64 d.heads) := fun x => Wb.cell p1 x
  have e2 : ∀ x : Wb w, x.1.cell? ⟨gb, o + 2, none⟩ = some (.int .i64 d.per) := fun x => Wb.cell p2 x
  have e3 : ∀ x : Wb w, x.1.cell? ⟨gb, o + 3, none⟩ = some (.int .i64 d.size) := fun x => Wb.cell p3 x
  have e4 : ∀ x : Wb w, x.1.cell? ⟨gb, o + 4, none⟩ = some (.slice A d.secs.length c) := fun x => Wb.cell p4 x
  cases h1 : geoB d.cyl d.heads d.per d.size
  · have HF := Lib.hid (dk_no1 h1)
    go_enter Try.func36, Try.ntmps36
    go_wp2_with (fail)
    refine wp_region_wb (by kernel_rfl) (by kernel_rfl) ?_; (repeat (go_big_quiet_step (first | (go_at_call 59; exact Wb.same (geo_s _ _ _ _ _))))); refine wpQuiet_nil ?_; rintro w1 ⟨⟨w1', hb1⟩, rfl⟩
    go_wp2
    go_ret
    exact ⟨ret_bool HF.out.symm, hb1⟩
  · obtain ⟨g1, g2, g3, g4⟩ := geo_parts h1
    obtain ⟨m1, m2⟩ := prod_bd g1 g2 g3
    cases h2 : ((d.secs.length : Int) == d.cyl * d.heads * d.per)
    · have HF := Lib.hid (dk_no2 h2)
      have h2' : ((d.secs.length : Int) != d.cyl * d.heads * d.per) = true := by unfold bne; rw [h2]; rfl
      go_enter Try.func36, Try.ntmps36
      go_wp2_with (fail)
      refine wp_region_wb (by kernel_rfl) (by kernel_rfl) ?_; (repeat (go_big_quiet_step (first | (go_at_call 59; exact Wb.same (geo_s _ _ _ _ _))))); refine wpQuiet_nil ?_; rintro w1 ⟨⟨w1', hb1⟩, rfl⟩
      go_wp2
      go_ret
      exact ⟨ret_bool HF.out.symm, hb1⟩
    · have HF := Lib.hid (dk_yes h1 h2)
      have h2' : ((d.secs.length : Int) != d.cyl * d.heads * d.per) = false := by unfold bne; rw [h2]; rfl
      go_enter Try.func36, Try.ntmps36
      go_wp2_with (fail)
      refine wp_region_wb (by kernel_rfl) (by kernel_rfl) ?_; (repeat (go_big_quiet_step (first | (go_at_call 59; exact Wb.same (geo_s _ _ _ _ _))))); refine wpQuiet_nil ?_; rintro w1 ⟨⟨w1', hb1⟩, rfl⟩
      have z1 := hb1.size
      clear e0 e1 e2 e3 e4 h2 h2' h1
      go_wp2
      go_loopw [3] (fun i wr => ∃ k : Nat, k ≤ d.secs.length ∧ i = .int .i64 k ∧ Below w.heap.size w wr ∧ Hid (discOk d = (d.secs.drop k).all fun s => secOk s (szN d.size))) (fun i _ => d.secs.length - (intOf i).toNat)
      case atStart => exact ⟨0, by omega, rfl, hb1, HF⟩
      case round =>
        obtain ⟨k, hk, rfl, hb, HK⟩ := hrel
        have zr := hb.size
        have r4 := (hb.cell (p := ⟨gb, o + 4, none⟩) hgb).trans p4
        by_cases hlt : k < d.secs.length
        · obtain ⟨s, hs⟩ : ∃ s, d.secs[k]? = some s := ⟨d.secs[k], List.getElem?_eq_getElem hlt⟩
          obtain ⟨g, rfl, hg, hc⟩ := hA.resolve_left (by intro h0; rw [h0] at hlt; simp at hlt)
          obtain ⟨c0, c1⟩ := hc k s hs
          have f3 : ∀ x : Wb wr, x.1.cell? ⟨gb, o + 3, none⟩ = some (.int .i64 d.size) := fun x => Wb.cell ((hb.cell (p := ⟨gb, o + 3, none⟩) hgb).trans p3) x
          have f4 : ∀ x : Wb wr, x.1.cell? ⟨gb, o + 4, none⟩ = some (.slice (some ⟨g, 0, none⟩) d.secs.length c) := fun x => Wb.cell r4 x
          have q0 : ∀ x : Wb wr, x.1.cell? ⟨g, k * 2, none⟩ = some (.string s.data) := fun x => Wb.cell ((hb.cell (p := ⟨g, _, none⟩) hg).trans c0) x
          have q1 : ∀ x : Wb wr, x.1.cell? ⟨g, k * 2 + 1, none⟩ = some (.int .i64 s.state) := fun x => Wb.cell ((hb.cell (p := ⟨g, _, none⟩) hg).trans c1) x
          have hz := szN_le g4
          have hms := hm s (List.mem_of_getElem? hs)
          have hsec := fun W => sec_s s (szN d.size) W (by omega) hms
          have HS := Lib.hid hs
          clear c0 c1 hs hc hA
          cases h5 : secOk s (szN d.size)
          · have HN := da_no HS.out HK h5
            rw [h5] at hsec
            go_wp2_with (fail)
            refine wp_region_wb (by kernel_rfl) (by kernel_rfl) ?_; (repeat (go_big_quiet_step (first | (go_at_call 61; exact Wb.same (bytes_s d.size _ g4)) | (go_at_call 60; exact Wb.calls (hsec _))))); refine wpQuiet_nil ?_; rintro w2 ⟨⟨w2', hb2⟩, rfl⟩
            go_wp2
            go_ret
            exact ⟨ret_bool HN.symm, hb.trans (hb2.mono zr)⟩
          · have HN := da_yes HS.out HK h5
            rw [h5] at hsec
            go_wp2_with (fail)
            refine wp_region_wb (by kernel_rfl) (by kernel_rfl) ?_; (repeat (go_big_quiet_step (first | (go_at_call 61; exact Wb.same (bytes_s d.size _ g4)) | (go_at_call 60; exact Wb.calls (hsec _))))); refine wpQuiet_nil ?_; rintro w2 ⟨⟨w2', hb2⟩, rfl⟩
            go_wp2
            go_roundw
            case rel => exact ⟨k + 1, by omega, by go_num, hb.trans (hb2.mono zr), HN⟩
            case measure => simp [intOf]; omega
        · go_wp2
          go_ret
          exact ⟨ret_bool (da_end (by omega) HK).symm, hb⟩
set_option maxRecDepth 20000 in
set_option maxHeartbeats 4000000 in
theorem alike_s (a b : Dsc) (ga oa gb ob : Nat) (w : World)
    (f0 : ∀ x : Wb w, x.1.cell? ⟨ga, oa, none⟩ = some (.int .i64 a.cyl)) (f1 : ∀ x : Wb w, x.1.cell? ⟨ga, oa + 1, none⟩ = some (.int .i64 a.heads)) (f2 : ∀ x : Wb w, x.1.cell? ⟨ga, oa + 2, none⟩ = some (.int .i64 a.per)) (f3 : ∀ x : Wb w, x.1.cell? ⟨ga, oa + 3, none⟩ = some (.int .i64 a.size))
    (y0 : ∀ x : Wb w, x.1.cell? ⟨gb, ob, none⟩ = some (.int .i64 b.cyl)) (y1 : ∀ x : Wb w, x.1.cell? ⟨gb, ob + 1, none⟩ = some (.int .i64 b.heads)) (y2 : ∀ x : Wb w, x.1.cell? ⟨gb, ob + 2, none⟩ = some (.int .i64 b.per)) (y3 : ∀ x : Wb w, x.1.cell? ⟨gb, ob + 3, none⟩ = some (.int .i64 b.size)) :
    Calls Try.prog 68 #[.pointer (some ⟨ga, oa, none⟩), .pointer (some ⟨gb, ob, none⟩)] w fun e w' => e = .returned (.bool (sameG a b)) ∧ Below w.heap.size w w' := by
  cases h1 : (a.cyl == b.cyl)
  · have HF : Hid (sameG a b = false) := Lib.hid (by unfold sameG; rw [h1]; rfl)
    go_enter Try.func68, Try.ntmps68
    go_wp2_with (fail)
    refine wp_region_wb (by kernel_rfl) (by kernel_rfl) ?_; (repeat (go_big_quiet_step (fail))); refine wpQuiet_nil ?_; rintro w1 ⟨⟨w1', hb1⟩, rfl⟩
    go_wp2
    go_ret
    exact ⟨ret_bool HF.out.symm, hb1⟩
  · cases h2 : (a.heads == b.heads)
    · have HF : Hid (sameG a b = false) := Lib.hid (by unfold sameG; rw [h1, h2]; rfl)
      go_enter Try.func68, Try.ntmps68
      go_wp2_with (fail)
      refine wp_region_wb (by kernel_rfl) (by kernel_rfl) ?_; (repeat (go_big_quiet_step (fail))); refine wpQuiet_nil ?_; rintro w1 ⟨⟨w1', hb1⟩, rfl⟩
      go_wp2
      go_ret
      exact ⟨ret_bool HF.out.symm, hb1⟩
    · cases h3 : (a.per == b.per)
      · have HF : Hid (sameG a b = false) := Lib.hid (by unfold sameG; rw [h1, h2, h3]; rfl)
        go_enter Try.func68, Try.ntmps68
        go_wp2_with (fail)
        refine wp_region_wb (by kernel_rfl) (by kernel_rfl) ?_; (repeat (go_big_quiet_step (fail))); refine wpQuiet_nil ?_; rintro w1 ⟨⟨w1', hb1⟩, rfl⟩
        go_wp2
        go_ret
        exact ⟨ret_bool HF.out.symm, hb1⟩
      · have HF : Hid (sameG a b = (a.size == b.size)) := Lib.hid (by unfold sameG; rw [h1, h2, h3]; rfl)
        go_enter Try.func68, Try.ntmps68
        go_wp2_with (fail)
        refine wp_region_wb (by kernel_rfl) (by kernel_rfl) ?_; (repeat (go_big_quiet_step (fail))); refine wpQuiet_nil ?_; rintro w1 ⟨⟨w1', hb1⟩, rfl⟩
        go_wp2
        go_ret
        exact ⟨ret_bool HF.out.symm, hb1⟩
end Go.Proofs.Ytjkfkjbakokjeaa
