/- Discs that are valid, impl and spec: the walks. Discs that are valid, the reference: the walks. Sectors that no source covers: the plain law. The laws' own helpers over one disc, marks and rows of its box. -/
import Derived.Test.YtfcdienphillnaaGreatCk06
import Derived.Test.YtfcdienphillnaaGreatCk03
namespace Go.Proofs.YtfcdienphillnaaGreat
set_option linter.unusedVariables false
set_option linter.unusedSimpArgs false
open Go.RowKit
def discOk (d : Dsc) : Bool := geoB d.cyl d.heads d.per d.size && (((d.secs.length : Int) == d.cyl * d.heads * d.per) && d.secs.all fun s => secOk s (szN d.size))
theorem dk_no1 {d : Dsc} (h : geoB d.cyl d.heads d.per d.size = false) : discOk d = false := by unfold discOk; rw [h, Bool.false_and]
theorem dk_no2 {d : Dsc} (h2 : ((d.secs.length : Int) == d.cyl * d.heads * d.per) = false) : discOk d = false := by unfold discOk; rw [h2, Bool.false_and, Bool.and_false]
theorem dk_yes {d : Dsc} (h : geoB d.cyl d.heads d.per d.size = true) (h2 : ((d.secs.length : Int) == d.cyl * d.heads * d.per) = true) : discOk d = d.secs.all fun s => secOk s (szN d.size) := by unfold discOk; rw [h, h2]; rfl
theorem geo_parts {c h p s : Int} (hg : geoB c h p s = true) : (1 ≤ c ∧ c ≤ 8) ∧ (1 ≤ h ∧ h ≤ 2) ∧ (1 ≤ p ∧ p ≤ 8) ∧ (0 ≤ s ∧ s ≤ 2) := by
  unfold geoB at hg
  simp only [Bool.and_eq_true] at hg
  exact ⟨inB_yes hg.1, inB_yes hg.2.1, inB_yes hg.2.2.1, inB_yes hg.2.2.2⟩
theorem prod_bd {c h p : Int} (h1 : 1 ≤ c ∧ c ≤ 8) (h2 : 1 ≤ h ∧ h ≤ 2) (h3 : 1 ≤ p ∧ p ≤ 8) : (1 ≤ c * h ∧ c * h ≤ 16) ∧ (1 ≤ c * h * p ∧ c * h * p ≤ 128) := by
  rcases (by omega : h = 1 ∨ h = 2) with rfl | rfl
  · have : (c = 1 ∨ c = 2 ∨ c = 3 ∨ c = 4 ∨ c = 5 ∨ c = 6 ∨ c = 7 ∨ c = 8) := by omega
    rcases this with rfl | rfl | rfl | rfl | rfl | rfl | rfl | rfl <;> omega
  · have : (c = 1 ∨ c = 2 ∨ c = 3 ∨ c = 4 ∨ c = 5 ∨ c = 6 ∨ c = 7 ∨ c = 8) := by omega
    rcases this with rfl | rfl | rfl | rfl | rfl | rfl | rfl | rfl <;> omega
theorem da_yes {l : List Sec} {k n : Nat} {s : Sec} {X : Bool} (he : l[k]? = some s) (H : Hid (X = (l.drop k).all fun s => secOk s n)) (h : secOk s n = true) : Hid (X = (l.drop (k + 1)).all fun s => secOk s n) := by
  obtain ⟨hk, rfl⟩ := List.getElem?_eq_some_iff.1 he
  exact Lib.hid (by rw [H.out, List.drop_eq_getElem_cons hk, List.all_cons, h, Bool.true_and])
theorem da_no {l : List Sec} {k n : Nat} {s : Sec} {X : Bool} (he : l[k]? = some s) (H : Hid (X = (l.drop k).all fun s => secOk s n)) (h : secOk s n = false) : X = false := by
  obtain ⟨hk, rfl⟩ := List.getElem?_eq_some_iff.1 he
  rw [H.out, List.drop_eq_getElem_cons hk, List.all_cons, h, Bool.false_and]
theorem da_end {l : List Sec} {k n : Nat} {X : Bool} (hk : l.length ≤ k) (H : Hid (X = (l.drop k).all fun s => secOk s n)) : X = true := by
  rw [H.out, List.drop_of_length_le hk]; rfl
theorem size_sec (A : Option Addr) (n c : Nat) (w : World) (hn : n ≤ 1048576) : Calls Tryz.prog 87 #[.slice A n c] w fun e w' => e = .returned (.int .i64 n) ∧ w = w' := by
  go_enter Tryz.func87, Tryz.ntmps87
  go_wp2
  go_ret
  exact ⟨rfl, rfl⟩
set_option maxRecDepth 20000 in
set_option maxHeartbeats 4000000 in
theorem disc_i (B : Nat) (d : Dsc) (bv : Value) (w : World) (h : SecOwn B w bv d.secs) (hn : d.secs.length ≤ 1048576) (hm : ∀ s ∈ d.secs, s.data.size ≤ maxLen) :
    Calls Tryz.prog 84 #[dscV d bv] w fun e w' => e = .returned (.bool (discOk d)) ∧ Below w.heap.size w w' := by
  obtain ⟨A, c, rfl, hA⟩ := OwnL.shape h
  have hc : ∀ (g : Nat), A = some ⟨g, 0, none⟩ → ∀ (k : Nat) (s : Sec), d.secs[k]? = some s → w.cell? ⟨g, k * 2, none⟩ = some (.string s.data) ∧ w.cell? ⟨g, k * 2 + 1, none⟩ = some (.int .i64 s.state) := fun g hg k s hk => by
    subst hg
    exact ⟨OwnL.cell Sec.len h hk (j := 0) rfl, OwnL.cell Sec.len h hk (j := 1) rfl⟩
  have HC := Lib.hid hc
  clear hc h
  have e0 : ∀ x : Wb (w.alloc (.cells #[.int .i64 d.cyl, .int .i64 d.heads, .int .i64 d.per, .int .i64 d.size, .slice A d.secs.length c] 43)), x.1.cell? ⟨w.heap.size, 0, none⟩ = some (.int .i64 d.cyl) := fun x => Wb.cell (by simp) x
  have e1 : ∀ x : Wb (w.alloc (.cells #[.int .i64 d.cyl, .int .i64 d.heads, .int .i64 d.per, .int .i64 d.size, .slice A d.secs.length c] 43)), x.1.cell? ⟨w.heap.size, 1, none⟩ = some (.int .i64 d.heads) := fun x => Wb.cell (by simp) x
  have e2 : ∀ x : Wb (w.alloc (.cells #[.int .i64 d.cyl, .int .i64 d.heads, .int .i64 d.per, .int .i64 d.size, .slice A d.secs.length c] 43)), x.1.cell? ⟨w.heap.size, 2, none⟩ = some (.int .i64 d.per) := fun x => Wb.cell (by simp) x
  have e3 : ∀ x : Wb (w.alloc (.cells #[.int .i64 d.cyl, .int .i64 d.heads, .int .i64 d.per, .int .i64 d.size, .slice A d.secs.length c] 43)), x.1.cell? ⟨w.heap.size, 3, none⟩ = some (.int .i64 d.size) := fun x => Wb.cell (by simp) x
  have e4 : ∀ x : Wb (w.alloc (.cells #[.int .i64 d.cyl, .int .i64 d.heads, .int .i64 d.per, .int .i64 d.size, .slice A d.secs.length c] 43)), x.1.cell? ⟨w.heap.size, 4, none⟩ = some (.slice A d.secs.length c) := fun x => Wb.cell (by simp) x
  have B0 : Below w.heap.size w (w.alloc (.cells #[.int .i64 d.cyl, .int .i64 d.heads, .int .i64 d.per, .int .i64 d.size, .slice A d.secs.length c] 43)) := Below.alloc (Below.refl _ _) (Nat.le_refl _) _
  cases h1 : geoB d.cyl d.heads d.per d.size
  · have HF := Lib.hid (dk_no1 h1)
    go_enter Tryz.func84, Tryz.ntmps84
    go_wp2_with (fail)
    refine wp_region_wb (by kernel_rfl) (by kernel_rfl) ?_; (repeat (go_big_quiet_step (first | (go_at_call 120; exact Wb.same (geo_i _ _ _ _ _)) | (go_at_call 87; exact Wb.same (size_sec _ _ _ _ (by omega)))))); refine wpQuiet_nil ?_; rintro w1 ⟨⟨w1', hb1⟩, rfl⟩
    go_wp2
    go_ret
    exact ⟨ret_bool HF.out.symm, B0.trans (hb1.mono (by simp))⟩
  · obtain ⟨g1, g2, g3, g4⟩ := geo_parts h1
    obtain ⟨m1, m2⟩ := prod_bd g1 g2 g3
    cases h2 : ((d.secs.length : Int) == d.cyl * d.heads * d.per)
    · have HF := Lib.hid (dk_no2 h2)
      have h2' : ((d.secs.length : Int) != d.cyl * d.heads * d.per) = true := by unfold bne; rw [h2]; rfl
      go_enter Tryz.func84, Tryz.ntmps84
      go_wp2_with (fail)
      refine wp_region_wb (by kernel_rfl) (by kernel_rfl) ?_; (repeat (go_big_quiet_step (first | (go_at_call 120; exact Wb.same (geo_i _ _ _ _ _)) | (go_at_call 87; exact Wb.same (size_sec _ _ _ _ (by omega)))))); refine wpQuiet_nil ?_; rintro w1 ⟨⟨w1', hb1⟩, rfl⟩
      go_wp2
      go_ret
      exact ⟨ret_bool HF.out.symm, B0.trans (hb1.mono (by simp))⟩
    · have HF := Lib.hid (dk_yes h1 h2)
      have h2' : ((d.secs.length : Int) != d.cyl * d.heads * d.per) = false := by unfold bne; rw [h2]; rfl
      go_enter Tryz.func84, Tryz.ntmps84
      go_wp2_with (fail)
      refine wp_region_wb (by kernel_rfl) (by kernel_rfl) ?_; (repeat (go_big_quiet_step (first | (go_at_call 120; exact Wb.same (geo_i _ _ _ _ _)) | (go_at_call 87; exact Wb.same (size_sec _ _ _ _ (by omega)))))); refine wpQuiet_nil ?_; rintro w1 ⟨⟨w1', hb1⟩, rfl⟩
      have p4 : w1.cell? ⟨w.heap.size, 4, none⟩ = some (.slice A d.secs.length c) := e4 ⟨w1, hb1⟩
      have p3 : w1.cell? ⟨w.heap.size, 3, none⟩ = some (.int .i64 d.size) := e3 ⟨w1, hb1⟩
      have z1 : w.heap.size + 1 ≤ w1.heap.size := by have := hb1.size; simpa using this
      have B1 : Below w.heap.size w w1 := B0.trans (hb1.mono (by simp))
      clear e0 e1 e2 e3 e4 h2 h2' h1
      go_wp2
      go_loopw [32] (fun i wr => ∃ k : Nat, k ≤ d.secs.length ∧ i = .int .i64 k ∧ Below w1.heap.size w1 wr ∧ Hid (discOk d = (d.secs.drop k).all fun s => secOk s (szN d.size))) (fun i _ => d.secs.length - (intOf i).toNat)
      case atStart => exact ⟨0, by omega, rfl, Below.refl _ _, HF⟩
      case round =>
        obtain ⟨k, hk, rfl, hb, HK⟩ := hrel
        have zr := hb.size
        have BR : Below w.heap.size w wr := B1.trans (hb.mono (by omega))
        by_cases hlt : k < d.secs.length
        · obtain ⟨s, hs⟩ : ∃ s, d.secs[k]? = some s := ⟨d.secs[k], List.getElem?_eq_getElem hlt⟩
          obtain ⟨g, rfl, _, hg⟩ := hA.resolve_left (by intro h0; rw [h0] at hlt; simp at hlt)
          obtain ⟨c0, c1⟩ := HC.out g rfl k s hs
          have q0 := (BR.cell (p := ⟨g, _, none⟩) hg).trans c0
          have q1 := (BR.cell (p := ⟨g, _, none⟩) hg).trans c1
          have q3 := (hb.cell (p := ⟨w.heap.size, 3, none⟩) (by show w.heap.size < _; omega)).trans p3
          have q3' : ∀ o : Obj, (wr.alloc o).cell? ⟨w.heap.size, 3, none⟩ = some (.int .i64 d.size) := fun o => (World.cell?_alloc_old _ _ _ (by show w.heap.size ≠ _; omega)).trans q3
          have hms := hm s (List.mem_of_getElem? hs)
          have HS := Lib.hid hs
          clear c0 c1 hs
          cases h5 : secOk s (szN d.size)
          · have HN := da_no HS.out HK h5
            go_wp2_with (go_at_call 121; refine (sec_i s d.size _ g4 hms).mono ?_; rw [h5]; rintro e w2 ⟨rfl, hb2⟩)
            go_ret
            exact ⟨ret_bool HN.symm, (by repeat (first | exact Below.refl _ _ | refine Below.alloc ?_ (by first | omega | (simp; done) | (simp; omega)) _ | apply Below.drew | apply below_drewN | refine Below.setCell ?_ (by first | omega | (simp; done) | (simp; omega)) _ | refine Below.trans ?_ (Below.mono (by assumption) (by first | omega | (simp; done) | (simp; omega)))))⟩
          · have HN := da_yes HS.out HK h5
            go_wp2_with (go_at_call 121; refine (sec_i s d.size _ g4 hms).mono ?_; rw [h5]; rintro e w2 ⟨rfl, hb2⟩)
            go_roundw
            case rel => exact ⟨k + 1, by omega, by go_num, (Below.alloc hb zr _).trans (hb2.mono (by simp; omega)), HN⟩
            case measure => simp [intOf]; omega
        · go_wp2
          go_ret
          exact ⟨ret_bool (da_end (by omega) HK).symm, BR⟩
end Go.Proofs.YtfcdienphillnaaGreat
namespace Go.Proofs.YtfcdienphillnaaGreat
set_option linter.unusedVariables false
set_option linter.unusedSimpArgs false
open Go.RowKit
set_option maxRecDepth 20000 in
set_option maxHeartbeats 4000000 in
theorem discp_s (d : Dsc) (gb c : Nat) (A : Option Addr) (w : World) (p0 : w.cell? ⟨gb, 0, none⟩ = some (.int .i64 d.cyl)) (p1 : w.cell? ⟨gb, 1, none⟩ = some (.int .i64 d.heads)) (p2 : w.cell? ⟨gb, 2, none⟩ = some (.int .i64 d.per)) (p3 : w.cell? ⟨gb, 3, none⟩ = some (.int .i64 d.size)) (p4 : w.cell? ⟨gb, 4, none⟩ = some (.slice A d.secs.length c))
    (hA : d.secs = [] ∨ ∃ g, A = some ⟨g, 0, none⟩ ∧ g < w.heap.size ∧ ∀ (k : Nat) (s : Sec), d.secs[k]? = some s → w.cell? ⟨g, k * 2, none⟩ = some (.string s.data) ∧ w.cell? ⟨g, k * 2 + 1, none⟩ = some (.int .i64 s.state))
    (hn : d.secs.length ≤ 1048576) (hm : ∀ s ∈ d.secs, s.data.size ≤ maxLen) :
    Calls Tryz.prog 74 #[.pointer (some ⟨gb, 0, none⟩)] w fun e w' => e = .returned (.bool (discOk d)) ∧ Below w.heap.size w w' := by
  have hgb := World.block_lt_of_cell? w _ p0
  have e0 : ∀ x : Wb w, x.1.cell? ⟨gb, 0, none⟩ = some (.int .i64 d.cyl) := fun x => Wb.cell p0 x
  have e1 : ∀ x : Wb w, x.1.cell? ⟨gb, 1, none⟩ = some (.int .i64 d.heads) := fun x => Wb.cell p1 x
  have e2 : ∀ x : Wb w, x.1.cell? ⟨gb, 2, none⟩ = some (.int .i64 d.per) := fun x => Wb.cell p2 x
  have e3 : ∀ x : Wb w, x.1.cell? ⟨gb, 3, none⟩ = some (.int .i64 d.size) := fun x => Wb.cell p3 x
  have e4 : ∀ x : Wb w, x.1.cell? ⟨gb, 4, none⟩ = some (.slice A d.secs.length c) := fun x => Wb.cell p4 x
  cases h1 : geoB d.cyl d.heads d.per d.size
  · have HF := Lib.hid (dk_no1 h1)
    go_enter Tryz.func74, Tryz.ntmps74
    go_wp2_with (fail)
    refine wp_region_wb (by kernel_rfl) (by kernel_rfl) ?_; (repeat (go_big_quiet_step (first | (go_at_call 114; exact Wb.same (geo_s _ _ _ _ _))))); refine wpQuiet_nil ?_; rintro w1 ⟨⟨w1', hb1⟩, rfl⟩
    go_wp2
    go_ret
    exact ⟨ret_bool HF.out.symm, hb1⟩
  · obtain ⟨g1, g2, g3, g4⟩ := geo_parts h1
    obtain ⟨m1, m2⟩ := prod_bd g1 g2 g3
    cases h2 : ((d.secs.length : Int) == d.cyl * d.heads * d.per)
    · have HF := Lib.hid (dk_no2 h2)
      have h2' : ((d.secs.length : Int) != d.cyl * d.heads * d.per) = true := by unfold bne; rw [h2]; rfl
      go_enter Tryz.func74, Tryz.ntmps74
      go_wp2_with (fail)
      refine wp_region_wb (by kernel_rfl) (by kernel_rfl) ?_; (repeat (go_big_quiet_step (first | (go_at_call 114; exact Wb.same (geo_s _ _ _ _ _))))); refine wpQuiet_nil ?_; rintro w1 ⟨⟨w1', hb1⟩, rfl⟩
      go_wp2
      go_ret
      exact ⟨ret_bool HF.out.symm, hb1⟩
    · have HF := Lib.hid (dk_yes h1 h2)
      have h2' : ((d.secs.length : Int) != d.cyl * d.heads * d.per) = false := by unfold bne; rw [h2]; rfl
      go_enter Tryz.func74, Tryz.ntmps74
      go_wp2_with (fail)
      refine wp_region_wb (by kernel_rfl) (by kernel_rfl) ?_; (repeat (go_big_quiet_step (first | (go_at_call 114; exact Wb.same (geo_s _ _ _ _ _))))); refine wpQuiet_nil ?_; rintro w1 ⟨⟨w1', hb1⟩, rfl⟩
      have z1 := hb1.size
      clear e0 e1 e2 e3 e4 h2 h2' h1
      go_wp2
      go_loopw [3] (fun i wr => ∃ k : Nat, k ≤ d.secs.length ∧ i = .int .i64 k ∧ Below w.heap.size w wr ∧ Hid (discOk d = (d.secs.drop k).all fun s => secOk s (szN d.size))) (fun i _ => d.secs.length - (intOf i).toNat)
      case atStart => exact ⟨0, by omega, rfl, hb1, HF⟩
      case round =>
        obtain ⟨k, hk, rfl, hb, HK⟩ := hrel
        have zr := hb.size
        have r4 := (hb.cell (p := ⟨gb, 4, none⟩) hgb).trans p4
        by_cases hlt : k < d.secs.length
        · obtain ⟨s, hs⟩ : ∃ s, d.secs[k]? = some s := ⟨d.secs[k], List.getElem?_eq_getElem hlt⟩
          obtain ⟨g, rfl, hg, hc⟩ := hA.resolve_left (by intro h0; rw [h0] at hlt; simp at hlt)
          obtain ⟨c0, c1⟩ := hc k s hs
          have f3 : ∀ x : Wb wr, x.1.cell? ⟨gb, 3, none⟩ = some (.int .i64 d.size) := fun x => Wb.cell ((hb.cell (p := ⟨gb, 3, none⟩) hgb).trans p3) x
          have f4 : ∀ x : Wb wr, x.1.cell? ⟨gb, 4, none⟩ = some (.slice (some ⟨g, 0, none⟩) d.secs.length c) := fun x => Wb.cell r4 x
          have q0 : ∀ x : Wb wr, x.1.cell? ⟨g, k * 2, none⟩ = some (.string s.data) := fun x => Wb.cell ((hb.cell (p := ⟨g, _, none⟩) hg).trans c0) x
          have q1 : ∀ x : Wb wr, x.1.cell? ⟨g, k * 2 + 1, none⟩ = some (.int .i64 s.state) := fun x => Wb.cell ((hb.cell (p := ⟨g, _, none⟩) hg).trans c1) x
          have hz := szN_le g4
          have hms := hm s (List.mem_of_getElem? hs)
          have hsec := fun W => sec_s s (szN d.size) W (by omega) hms
          have HS := Lib.hid hs
          clear c0 c1 hs hc hA
          cases h5 : secOk s (szN d.size)
          · have HN := da_no HS.out HK h5
            rw [h5] at hsec
            go_wp2_with (fail)
            refine wp_region_wb (by kernel_rfl) (by kernel_rfl) ?_; (repeat (go_big_quiet_step (first | (go_at_call 116; exact Wb.same (bytes_s d.size _ g4)) | (go_at_call 115; exact Wb.calls (hsec _))))); refine wpQuiet_nil ?_; rintro w2 ⟨⟨w2', hb2⟩, rfl⟩
            go_wp2
            go_ret
            exact ⟨ret_bool HN.symm, hb.trans (hb2.mono zr)⟩
          · have HN := da_yes HS.out HK h5
            rw [h5] at hsec
            go_wp2_with (fail)
            refine wp_region_wb (by kernel_rfl) (by kernel_rfl) ?_; (repeat (go_big_quiet_step (first | (go_at_call 116; exact Wb.same (bytes_s d.size _ g4)) | (go_at_call 115; exact Wb.calls (hsec _))))); refine wpQuiet_nil ?_; rintro w2 ⟨⟨w2', hb2⟩, rfl⟩
            go_wp2
            go_roundw
            case rel => exact ⟨k + 1, by omega, by go_num, hb.trans (hb2.mono zr), HN⟩
            case measure => simp [intOf]; omega
        · go_wp2
          go_ret
          exact ⟨ret_bool (da_end (by omega) HK).symm, hb⟩
end Go.Proofs.YtfcdienphillnaaGreat
namespace Go.Proofs.YtfcdienphillnaaGreat
set_option linter.unusedVariables false
set_option linter.unusedSimpArgs false
open Go.RowKit
/-- the kind of the first source of a sector, 0 if there is none -/
def kinN (x : Int) : List Src → Int
  | [] => 0
  | s :: r => if s.sector == x then s.kind else kinN x r
theorem kin_yes {x : Int} {l : List Src} {k : Nat} {s : Src} (hs : l[k]? = some s) (H : Hid (kinN x l = kinN x (l.drop k))) (h : (s.sector == x) = true) : kinN x l = s.kind := by
  obtain ⟨hk, rfl⟩ := List.getElem?_eq_some_iff.1 hs
  rw [H.out, List.drop_eq_getElem_cons hk, kinN, if_pos h]
theorem kin_no {x : Int} {l : List Src} {k : Nat} {s : Src} (hs : l[k]? = some s) (H : Hid (kinN x l = kinN x (l.drop k))) (h : (s.sector == x) = false) : Hid (kinN x l = kinN x (l.drop (k + 1))) := by
  obtain ⟨hk, rfl⟩ := List.getElem?_eq_some_iff.1 hs
  exact Lib.hid (by rw [H.out, List.drop_eq_getElem_cons hk, kinN, if_neg (by rw [h]; decide)])
theorem kin_end {x : Int} {l : List Src} {k : Nat} (hk : l.length ≤ k) (H : Hid (kinN x l = kinN x (l.drop k))) : kinN x l = 0 := by
  rw [H.out, List.drop_of_length_le hk]; rfl
def uncB (l : List Src) (s : Sec) (k : Nat) : Bool := s.state != 3 && kinN k l == 0
def uncN (l : List Src) : Nat → List Sec → List Int
  | _, [] => []
  | k, s :: r => if uncB l s k then (k : Int) :: uncN l (k + 1) r else uncN l (k + 1) r
def uncE (d : Dsc) (l : List Src) : List Int × Int := if discOk d && certOk l then (uncN l 0 d.secs, 0) else ([], 1)
theorem uncN_len (l : List Src) (k : Nat) (r : List Sec) : (uncN l k r).length ≤ r.length := by
  induction r generalizing k with
  | nil => exact Nat.le_refl _
  | cons s r ih =>
    have := ih (k + 1)
    unfold uncN
    split
    · simp only [List.length_cons]; omega
    · simp only [List.length_cons]; omega
theorem uncE_len (d : Dsc) (l : List Src) (h : d.secs.length ≤ 1048576) : (uncE d l).1.length ≤ 1048576 := by
  unfold uncE
  split
  · exact Nat.le_trans (uncN_len _ _ _) h
  · exact Nat.zero_le _
theorem unc_no1 {d : Dsc} {l : List Src} (h : discOk d = false) : uncE d l = ([], 1) := by unfold uncE; rw [h]; rfl
theorem unc_no2 {d : Dsc} {l : List Src} (h : certOk l = false) : uncE d l = ([], 1) := by unfold uncE; rw [h, Bool.and_false]; rfl
theorem unc_ok {d : Dsc} {l : List Src} (h : discOk d = true) (h2 : certOk l = true) : uncE d l = (uncN l 0 d.secs, 0) := by unfold uncE; rw [h, h2]; rfl
theorem un_yes {l : List Src} {ss : List Sec} {k : Nat} {s : Sec} {X acc : List Int} (hs : ss[k]? = some s) (H : Hid (X = acc ++ uncN l k (ss.drop k))) (h : uncB l s k = true) : Hid (X = (acc ++ [(k : Int)]) ++ uncN l (k + 1) (ss.drop (k + 1))) := by
  obtain ⟨hk, rfl⟩ := List.getElem?_eq_some_iff.1 hs
  exact Lib.hid (by rw [H.out, List.drop_eq_getElem_cons hk, uncN, if_pos h, List.append_assoc]; rfl)
theorem un_no {l : List Src} {ss : List Sec} {k : Nat} {s : Sec} {X acc : List Int} (hs : ss[k]? = some s) (H : Hid (X = acc ++ uncN l k (ss.drop k))) (h : uncB l s k = false) : Hid (X = acc ++ uncN l (k + 1) (ss.drop (k + 1))) := by
  obtain ⟨hk, rfl⟩ := List.getElem?_eq_some_iff.1 hs
  exact Lib.hid (by rw [H.out, List.drop_eq_getElem_cons hk, uncN, if_neg (by rw [h]; decide)])
theorem un_end {l : List Src} {ss : List Sec} {k : Nat} {X acc : List Int} (hk : ss.length ≤ k) (H : Hid (X = acc ++ uncN l k (ss.drop k))) : X = acc := by
  rw [H.out, List.drop_of_length_le hk, uncN, List.append_nil]
theorem ub1 {l : List Src} {s : Sec} {k : Nat} (h : s.state = 3) : uncB l s k = false := by unfold uncB; rw [h]; rfl
theorem ub2 {l : List Src} {s : Sec} {k : Nat} (h : (kinN k l == 0) = false) : uncB l s k = false := by unfold uncB; rw [h, Bool.and_false]
theorem ub3 {l : List Src} {s : Sec} {k : Nat} (h1 : ¬ s.state = 3) (h : (kinN k l == 0) = true) : uncB l s k = true := by unfold uncB; rw [h, Bool.and_true]; simpa using h1
theorem kinN_cert {l : List Src} (h : certOk l = true) (x : Int) : 0 ≤ kinN x l ∧ kinN x l ≤ 4 := by
  have hk : ∀ (last : Int) (r : List Src), certFrom last r = true → 0 ≤ kinN x r ∧ kinN x r ≤ 4 := by
    intro last r
    induction r generalizing last with
    | nil => intro _; exact ⟨Int.le_refl _, by show (0 : Int) ≤ 4; decide⟩
    | cons a r ih =>
      intro h
      rw [certFrom, Bool.and_eq_true] at h
      have := (srcOk_iff.1 h.1).1
      unfold kinN
      split
      · omega
      · exact ih _ h.2
  exact hk _ _ h
end Go.Proofs.YtfcdienphillnaaGreat
namespace Go.Proofs.YtfcdienphillnaaGreat
set_option linter.unusedVariables false
set_option linter.unusedSimpArgs false
open Go.RowKit
def Row (w : World) (b : Nat) (us : List Value) : Prop := ∀ j u, us[j]? = some u → w.cell? ⟨b, j, none⟩ = some u
theorem Row.below {w w' : World} {b : Nat} {us : List Value} (h : Row w b us) (hb : Below w.heap.size w w') (hl : b < w.heap.size) : Row w' b us := fun j u hu => (hb.cell (p := ⟨b, j, none⟩) hl).trans (h j u hu)
theorem Row.alloc (w : World) (cs : Array Value) (e : TypeId) : Row (w.alloc (.cells cs e)) w.heap.size cs.toList := by
  intro j u hu
  simp [go_sem]
  simpa using hu
abbrev dscL (d : Dsc) (v : Value) : List Value := [.int .i64 d.cyl, .int .i64 d.heads, .int .i64 d.per, .int .i64 d.size, v]
abbrev OwnD (B E : Nat) (w : World) (v : Value) (l : List Sec) : Prop := RSectorS.own B E w v l
theorem OwnD.of {B : Nat} {w : World} {v : Value} {l : List Sec} (h : SecOwn B w v l) : OwnD B w.heap.size w v l := ⟨h, fun g hg => (World.ownsRow.lt h g hg).2⟩
theorem OwnD.below {B E : Nat} {w w' : World} {v : Value} {l : List Sec} (h : OwnD B E w v l) (hb : Below w.heap.size w w') : OwnD B E w' v l := Rep.keep (R := RSectorS) h hb
theorem OwnD.chg {B E B' E' : Nat} {w w' : World} {v : Value} {l : List Sec} (h : OwnD B E w v l) (hc : Chg B' E' w w') (hd : E ≤ B' ∨ E' ≤ B) : OwnD B E w' v l := RSectorS.chg h hc hd
theorem Row.chg {w w' : World} {b B E : Nat} {us : List Value} (h : Row w b us) (hc : Chg B E w w') (hl : b < w.heap.size) (hd : b < B ∨ E ≤ b) : Row w' b us := fun j u hu => (World.cell?_of_block (a := ⟨b, j, none⟩) (hc.block b hl (by omega))).trans (h j u hu)
abbrev Five (d : Dsc) (v : Value) (b : Nat) (w : World) : Prop := w.cell? ⟨b, 0, none⟩ = some (.int .i64 d.cyl) ∧ w.cell? ⟨b, 1, none⟩ = some (.int .i64 d.heads) ∧ w.cell? ⟨b, 2, none⟩ = some (.int .i64 d.per) ∧ w.cell? ⟨b, 3, none⟩ = some (.int .i64 d.size) ∧ w.cell? ⟨b, 4, none⟩ = some v
theorem Row.five {w : World} {b : Nat} {d : Dsc} {v : Value} (h : Row w b (dscL d v)) : Five d v b w := ⟨h 0 _ rfl, h 1 _ rfl, h 2 _ rfl, h 3 _ rfl, h 4 _ rfl⟩
theorem toDscR (d : Dsc) (bv : Value) (w : World) (h : SecIn w bv d.secs) (hn : d.secs.length ≤ 1048576) :
    Calls Tryz.prog 13 #[dscV d bv] w fun e w' => ∃ A c, e = .returned (dscV d (.slice A d.secs.length c)) ∧ OwnD w.heap.size w'.heap.size w' (.slice A d.secs.length c) d.secs ∧ Below w.heap.size w w' :=
  (toDsc d bv w h hn).mono fun e w' ⟨A, c, h1, h2, h3⟩ => ⟨A, c, h1, OwnD.of h2, h3⟩
set_option maxRecDepth 20000 in
set_option maxHeartbeats 2000000 in
theorem markDsc (d : Dsc) (v : Value) (k0 B E : Nat) (w : World) (h : OwnD B E w v d.secs) (hn : d.secs.length ≤ 1048576) (h0 : 1 ≤ k0) (hk : k0 ≤ 67108864) :
    Calls Tryz.prog 29 #[dscV d v, .int .i64 k0] w fun e w' => e = .returned (.int .i64 ((k0 + d.secs.length * 2 : Nat) : Int)) ∧ OwnD B E w' v (RSectorS.mark k0 d.secs) ∧ Chg B E w w' := by
  have HO := Lib.hid h
  obtain ⟨A, c, rfl, _⟩ := OwnL.shape h.1
  have HB : Below w.heap.size w (w.alloc (.cells #[.int .i64 d.cyl, .int .i64 d.heads, .int .i64 d.per, .int .i64 d.size, .slice A d.secs.length c] 43)) := Below.alloc (Below.refl _ _) (Nat.le_refl _) _
  have HM := Lib.hid (r_markSectorS d.secs (.slice A d.secs.length c) k0 B E _ (HO.out.below HB) (by show d.secs.length * 2 ≤ _; omega) h0 hk)
  clear h
  go_enter Tryz.func29, Tryz.ntmps29
  go_wp2_with (fail)
  refine HM.out.mono ?_; rintro e w1 ⟨rfl, o1, hc⟩
  go_wp2
  go_ret
  exact ⟨rfl, o1, (Chg.of_below HB).trans hc⟩
set_option maxRecDepth 20000 in
set_option maxHeartbeats 2000000 in
theorem heldDsc (d : Dsc) (v : Value) (k0 B E : Nat) (w : World) (h : OwnD B E w v (RSectorS.mark k0 d.secs)) (hn : d.secs.length ≤ 1048576) (h0 : 1 ≤ k0) (hk : k0 ≤ 67108864) (hv : ∃ A c, v = .slice A d.secs.length c) :
    Calls Tryz.prog 31 #[dscV d v, .int .i64 k0] w fun e w' => e = .returned (.int .i64 ((k0 + d.secs.length * 2 : Nat) : Int)) ∧ Below w.heap.size w w' := by
  have HO := Lib.hid h
  obtain ⟨A, c, rfl⟩ := hv
  have HB : Below w.heap.size w (w.alloc (.cells #[.int .i64 d.cyl, .int .i64 d.heads, .int .i64 d.per, .int .i64 d.size, .slice A d.secs.length c] 43)) := Below.alloc (Below.refl _ _) (Nat.le_refl _) _
  have HM := Lib.hid (r_heldSectorS d.secs (.slice A d.secs.length c) k0 B E _ (HO.out.below HB) (by show d.secs.length * 2 ≤ _; omega) h0 hk)
  have hk2 : ((k0 + RSectorS.cnt d.secs : Nat) : Int) = ((k0 + d.secs.length * 2 : Nat) : Int) := rfl
  have hlt : decide (((k0 + RSectorS.cnt d.secs : Nat) : Int) < 0) = false := by simp; omega
  clear h
  go_enter Tryz.func31, Tryz.ntmps31
  go_wp2_with (fail)
  refine HM.out.mono ?_; rintro e w1 ⟨rfl, hb⟩
  go_wp2
  go_ret
  exact ⟨rfl, HB.trans (hb.mono (by simp))⟩
end Go.Proofs.YtfcdienphillnaaGreat
