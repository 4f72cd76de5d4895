/- Discs that are valid, impl and spec: the walks. -/
import Derived.Test.YtjkfkjbakokjeaaVSec2
namespace Go.Proofs.Ytjkfkjbakokjeaa
set_option linter.unusedVariables false
open Go.RowKit
def discOk (d : Dsc) : Bool := geoB d.cyl d.heads d.per d.size && (((d.secs.length : Int) == d.cyl * d.heads * d.per) && d.secs.all fun s => secOk s (szN d.size))
theorem dk_no1 {d : Dsc} (h : geoB d.cyl d.heads d.per d.size = false) : discOk d = false := by unfold discOk; rw [h, Bool.false_and]
theorem dk_no2 {d : Dsc} (h2 : ((d.secs.length : Int) == d.cyl * d.heads * d.per) = false) : discOk d = false := by unfold discOk; rw [h2, Bool.false_and, Bool.and_false]
theorem dk_yes {d : Dsc} (h : geoB d.cyl d.heads d.per d.size = true) (h2 : ((d.secs.length : Int) == d.cyl * d.heads * d.per) = true) : discOk d = d.secs.all fun s => secOk s (szN d.size) := by unfold discOk; rw [h, h2]; rfl
theorem geo_parts {c h p s : Int} (hg : geoB c h p s = true) : (1 ≤ c ∧ c ≤ 8) ∧ (1 ≤ h ∧ h ≤ 2) ∧ (1 ≤ p ∧ p ≤ 8) ∧ (0 ≤ s ∧ s ≤ 2) := by
  unfold geoB at hg
  simp only [Bool.and_eq_true] at hg
  exact ⟨inB_yes hg.1, inB_yes hg.2.1, inB_yes hg.2.2.1, inB_yes hg.2.2.2⟩
theorem prod_bd {c h p : Int} (h1 : 1 ≤ c ∧ c ≤ 8) (h2 : 1 ≤ h ∧ h ≤ 2) (h3 : 1 ≤ p ∧ p ≤ 8) : (1 ≤ c * h ∧ c * h ≤ 16) ∧ (1 ≤ c * h * p ∧ c * h * p ≤ 128) := by
  rcases (by omega : h = 1 ∨ h = 2) with rfl | rfl
  · have : (c = 1 ∨ c = 2 ∨ c = 3 ∨ c = 4 ∨ c = 5 ∨ c = 6 ∨ c = 7 ∨ c = 8) := by omega
    rcases this with rfl | rfl | rfl | rfl | rfl | rfl | rfl | rfl <;> omega
  · have : (c = 1 ∨ c = 2 ∨ c = 3 ∨ c = 4 ∨ c = 5 ∨ c = 6 ∨ c = 7 ∨ c = 8) := by omega
    rcases this with rfl | rfl | rfl | rfl | rfl | rfl | rfl | rfl <;> omega
theorem da_yes {l : List Sec} {k n : Nat} {s : Sec} {X : Bool} (he : l[k]? = some s) (H : Hid (X = (l.drop k).all fun s => secOk s n)) (h : secOk s n = true) : Hid (X = (l.drop (k + 1)).all fun s => secOk s n) := by
  obtain ⟨hk, rfl⟩ := List.getElem?_eq_some_iff.1 he
  exact Lib.hid (by rw [H.out, List.drop_eq_getElem_cons hk, List.all_cons, h, Bool.true_and])
theorem da_no {l : List Sec} {k n : Nat} {s : Sec} {X : Bool} (he : l[k]? = some s) (H : Hid (X = (l.drop k).all fun s => secOk s n)) (h : secOk s n = false) : X = false := by
  obtain ⟨hk, rfl⟩ := List.getElem?_eq_some_iff.1 he
  rw [H.out, List.drop_eq_getElem_cons hk, List.all_cons, h, Bool.false_and]
theorem da_end {l : List Sec} {k n : Nat} {X : Bool} (hk : l.length ≤ k) (H : Hid (X = (l.drop k).all fun s => secOk s n)) : X = true := by
  rw [H.out, List.drop_of_length_le hk]; rfl
theorem size_sec (A : Option Addr) (n c : Nat) (w : World) (hn : n ≤ 1048576) : Calls Try.prog 64 #[.slice A n c] w fun e w' => e = .returned (.int .i64 n) ∧ w = w' := by
  go_enter Try.func64, Try.ntmps64
  go_wp2
  go_ret
  exact ⟨rfl, rfl⟩
set_option maxRecDepth 20000 in
set_option maxHeartbeats 4000000 in
theorem disc_i (B : Nat) (d : Dsc) (bv : Value) (w : World) (h : SecOwn B w bv d.secs) (hn : d.secs.length ≤ 1048576) (hm : ∀ s ∈ d.secs, s.data.size ≤ maxLen) :
    Calls Try.prog 39 #[dscV d bv] w fun e w' => e = .returned (.bool (discOk d)) ∧ Below w.heap.size w w' := by
  obtain ⟨A, c, rfl, hA⟩ := OwnL.shape h
  have hc : ∀ (g : Nat), A = some ⟨g, 0, none⟩ → ∀ (k : Nat) (s : Sec), d.secs[k]? = some s → w.cell? ⟨g, k * 2, none⟩ = some (.string s.data) ∧ w.cell? ⟨g, k * 2 + 1, none⟩ = some (.int .i64 s.state) := fun g hg k s hk => by
    subst hg
    exact ⟨OwnL.cell Sec.len h hk (j := 0) rfl, OwnL.cell Sec.len h hk (j := 1) rfl⟩
  have HC := Lib.hid hc
  clear hc h
  have e0 : ∀ x : Wb (w.alloc (.cells #[.int .i64 d.cyl, .int .i64 d.heads, .int .i64 d.per, .int .i64 d.size, .slice A d.secs.length c] 46)), x.1.cell? ⟨w.heap.size, 0, none⟩ = some (.int .i64 d.cyl) := fun x => Wb.cell (by simp) x
  have e1 : ∀ x : Wb (w.alloc (.cells #[.int .i64 d.cyl, .int .i64 d.heads, .int .i64 d.per, .int .i64 d.size, .slice A d.secs.length c] 46)), x.1.cell? ⟨w.heap.size, 1, none⟩ = some (.int .i64 d.heads) := fun x => Wb.cell (by simp) x
  have e2 : ∀ x : Wb (w.alloc (.cells #[.int .i64 d.cyl, .int .i64 d.heads, .int .i64 d.per, .int .i64 d.size, .slice A d.secs.length c] 46)), x.1.cell? ⟨w.heap.size, 2, none⟩ = some (.int .i64 d.per) := fun x => Wb.cell (by simp) x
  have e3 : ∀ x : Wb (w.alloc (.cells #[.int .i64 d.cyl, .int .i64 d.heads, .int .i64 d.per, .int .i64 d.size, .slice A d.secs.length c] 46)), x.1.cell? ⟨w.heap.size, 3, none⟩ = some (.int .i64 d.size) := fun x => Wb.cell (by simp) x
  have e4 : ∀ x : Wb (w.alloc (.cells #[.int .i64 d.cyl, .int .i64 d.heads, .int .i64 d.per, .int .i64 d.size, .slice A d.secs.length c] 46)), x.1.cell? ⟨w.heap.size, 4, none⟩ = some (.slice A d.secs.length c) := fun x => Wb.cell (by simp) x
  have B0 : Below w.heap.size w (w.alloc (.cells #[.int .i64 d.cyl, .int .i64 d.heads, .int .i64 d.per, .int .i64 d.size, .slice A d.secs.length c] 46)) := Below.alloc (Below.refl _ _) (Nat.le_refl _) _
  cases h1 : geoB d.cyl d.heads d.per d.size
  · have HF := Lib.hid (dk_no1 h1)
    go_enter Try.func39, Try.ntmps39
    go_wp2_with (fail)
    refine wp_region_wb (by kernel_rfl) (by kernel_rfl) ?_; (repeat (go_big_quiet_step (first | (go_at_call 63; exact Wb.same (geo_i _ _ _ _ _)) | (go_at_call 64; exact Wb.same (size_sec _ _ _ _ (by omega)))))); refine wpQuiet_nil ?_; rintro w1 ⟨⟨w1', hb1⟩, rfl⟩
    go_wp2
    go_ret
    exact ⟨ret_bool HF.out.symm, B0.trans (hb1.mono (by simp))⟩
  · obtain ⟨g1, g2, g3, g4⟩ := geo_parts h1
    obtain ⟨m1, m2⟩ := prod_bd g1 g2 g3
    cases h2 : ((d.secs.length : Int) == d.cyl * d.heads * d.per)
    · have HF := Lib.hid (dk_no2 h2)
      have h2' : ((d.secs.length : Int) != d.cyl * d.heads * d.per) = true := by unfold bne; rw [h2]; rfl
      go_enter Try.func39, Try.ntmps39
      go_wp2_with (fail)
      refine wp_region_wb (by kernel_rfl) (by kernel_rfl) ?_; (repeat (go_big_quiet_step (first | (go_at_call 63; exact Wb.same (geo_i _ _ _ _ _)) | (go_at_call 64; exact Wb.same (size_sec _ _ _ _ (by omega)))))); refine wpQuiet_nil ?_; rintro w1 ⟨⟨w1', hb1⟩, rfl⟩
      go_wp2
      go_ret
      exact ⟨ret_bool HF.out.symm, B0.trans (hb1.mono (by simp))⟩
    · have HF := Lib.hid (dk_yes h1 h2)
      have h2' : ((d.secs.length : Int) != d.cyl * d.heads * d.per) = false := by unfold bne; rw [h2]; rfl
      go_enter Try.func39, Try.ntmps39
      go_wp2_with (fail)
      refine wp_region_wb (by kernel_rfl) (by kernel_rfl) ?_; (repeat (go_big_quiet_step (first | (go_at_call 63; exact Wb.same (geo_i _ _ _ _ _)) | (go_at_call 64; exact Wb.same (size_sec _ _ _ _ (by omega)))))); refine wpQuiet_nil ?_; rintro w1 ⟨⟨w1', hb1⟩, rfl⟩
      have p4 : w1.cell? ⟨w.heap.size, 4, none⟩ = some (.slice A d.secs.length c) := e4 ⟨w1, hb1⟩
      have p3 : w1.cell? ⟨w.heap.size, 3, none⟩ = some (.int .i64 d.size) := e3 ⟨w1, hb1⟩
      have z1 : w.heap.size + 1 ≤ w1.heap.size := by have := hb1.size; simpa using this
      have B1 : Below w.heap.size w w1 := B0.trans (hb1.mono (by simp))
      clear e0 e1 e2 e3 e4 h2 h2' h1
      go_wp2
      go_loopw [32] (fun i wr => ∃ k : Nat, k ≤ d.secs.length ∧ i = .int .i64 k ∧ Below w1.heap.size w1 wr ∧ Hid (discOk d = (d.secs.drop k).all fun s => secOk s (szN d.size))) (fun i _ => d.secs.length - (intOf i).toNat)
      case atStart => exact ⟨0, by omega, rfl, Below.refl _ _, HF⟩
      case round =>
        obtain ⟨k, hk, rfl, hb, HK⟩ := hrel
        have zr := hb.size
        have BR : Below w.heap.size w wr := B1.trans (hb.mono (by omega))
        by_cases hlt : k < d.secs.length
        · obtain ⟨s, hs⟩ : ∃ s, d.secs[k]? = some s := ⟨d.secs[k], List.getElem?_eq_getElem hlt⟩
          obtain ⟨g, rfl, _, hg⟩ := hA.resolve_left (by intro h0; rw [h0] at hlt; simp at hlt)
          obtain ⟨c0, c1⟩ := HC.out g rfl k s hs
          have q0 := (BR.cell (p := ⟨g, _, none⟩) hg).trans c0
          have q1 := (BR.cell (p := ⟨g, _, none⟩) hg).trans c1
          have q3 := (hb.cell (p := ⟨w.heap.size, 3, none⟩) (by show w.heap.size < _; omega)).trans p3
          have q3' : ∀ o : Obj, (wr.alloc o).cell? ⟨w.heap.size, 3, none⟩ = some (.int .i64 d.size) := fun o => (World.cell?_alloc_old _ _ _ (by show w.heap.size ≠ _; omega)).trans q3
          have hms := hm s (List.mem_of_getElem? hs)
          have HS := Lib.hid hs
          clear c0 c1 hs
          cases h5 : secOk s (szN d.size)
          · have HN := da_no HS.out HK h5
            go_wp2_with (go_at_call 65; refine (sec_i s d.size _ g4 hms).mono ?_; rw [h5]; rintro e w2 ⟨rfl, hb2⟩)
            go_ret
            exact ⟨ret_bool HN.symm, (by repeat (first | exact Below.refl _ _ | refine Below.alloc ?_ (by first | omega | (simp; done) | (simp; omega)) _ | apply Below.drew | apply below_drewN | refine Below.setCell ?_ (by first | omega | (simp; done) | (simp; omega)) _ | refine Below.trans ?_ (Below.mono (by assumption) (by first | omega | (simp; done) | (simp; omega)))))⟩
          · have HN := da_yes HS.out HK h5
            go_wp2_with (go_at_call 65; refine (sec_i s d.size _ g4 hms).mono ?_; rw [h5]; rintro e w2 ⟨rfl, hb2⟩)
            go_roundw
            case rel => exact ⟨k + 1, by omega, by go_num, (Below.alloc hb zr _).trans (hb2.mono (by simp; omega)), HN⟩
            case measure => simp [intOf]; omega
        · go_wp2
          go_ret
          exact ⟨ret_bool (da_end (by omega) HK).symm, BR⟩
end Go.Proofs.Ytjkfkjbakokjeaa
