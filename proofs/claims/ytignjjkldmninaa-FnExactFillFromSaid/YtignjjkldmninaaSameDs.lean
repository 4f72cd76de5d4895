/- SameDisc of the reference: the walk. -/
import Derived.Test.YtignjjkldmninaaSameDi
namespace Go.Proofs.Ytignjjkldmninaa
set_option linter.unusedVariables false
open Go.RowKit
theorem sec_cells {B g n c k : Nat} {a : List Sec} {x : Sec} {w : World} (ha : SecOwn B w (.slice (some ⟨g, 0, none⟩) n c) a) (hn : a.length = n) (hk : a[k]? = some x) : w.cell? ⟨g, k * 2, none⟩ = some (.string x.data) ∧ w.cell? ⟨g, k * 2 + 1, none⟩ = some (.int .i64 x.state) := by
  subst hn
  exact ⟨OwnL.cell Sec.len ha hk (j := 0) rfl, OwnL.cell Sec.len ha hk (j := 1) rfl⟩
set_option maxRecDepth 20000 in
set_option maxHeartbeats 4000000 in
theorem l12same_s (Ba Bb ga gb : Nat) (a b : Dsc) (va vb : Value) (w : World) (ha : SecOwn Ba w va a.secs) (hb : SecOwn Bb w vb b.secs) (hn : a.secs.length ≤ 8388608) (hm : b.secs.length ≤ 8388608)
    (ca : ∀ (j : Nat) (u : Value), (a.ints ++ [va])[j]? = some u → w.cell? ⟨ga, j, none⟩ = some u) (cb : ∀ (j : Nat) (u : Value), (b.ints ++ [vb])[j]? = some u → w.cell? ⟨gb, j, none⟩ = some u) :
    Calls Try.prog 103 #[.pointer (some ⟨ga, 0, none⟩), .pointer (some ⟨gb, 0, none⟩)] w fun e w' => e = .returned (.bool (sameD a b)) ∧ Below w.heap.size w w' := by
  have HAL : Hid (∀ x : Wb w, Calls Try.prog 126 #[.pointer (some ⟨ga, 0, none⟩), .pointer (some ⟨gb, 0, none⟩)] x.1 fun e w' => e = .returned (.bool (sameG a b)) ∧ Below x.1.heap.size x.1 w') := Lib.hid (fun x => alike_s ga gb a b x.1 (fun j u hu => Wb.cell (ca j u (by rw [List.getElem?_append_left (List.getElem?_eq_some_iff.1 hu).1]; exact hu)) x) (fun j u hu => Wb.cell (cb j u (by rw [List.getElem?_append_left (List.getElem?_eq_some_iff.1 hu).1]; exact hu)) x))
  have pa : w.cell? ⟨ga, 4, none⟩ = some va := ca 4 _ rfl
  have pb : w.cell? ⟨gb, 4, none⟩ = some vb := cb 4 _ rfl
  have a4 : ∀ x : Wb w, x.1.cell? ⟨ga, 4, none⟩ = some va := fun x => Wb.cell pa x
  have b4 : ∀ x : Wb w, x.1.cell? ⟨gb, 4, none⟩ = some vb := fun x => Wb.cell pb x
  have hga : ga < w.heap.size := World.block_lt_of_cell? w _ pa
  have hgb : gb < w.heap.size := World.block_lt_of_cell? w _ pb
  have HA := Lib.hid ha
  have HBo := Lib.hid hb
  obtain ⟨A, c, rfl, hA⟩ := OwnL.shape ha
  obtain ⟨A', c', rfl, hA'⟩ := OwnL.shape hb
  clear ca cb ha hb
  unfold sameD
  cases hg : sameG a b
  · rw [hg] at HAL
    go_enter Try.func103, Try.ntmps103
    go_wp2_with (fail)
    refine wp_region_wb (by kernel_rfl) (by kernel_rfl) ?_; (repeat (go_big_quiet_step ((go_at_call 126; exact Wb.calls (HAL.out _))))); refine wpQuiet_nil ?_; intro w1 hw'; obtain ⟨⟨w2, hb1⟩, hw''⟩ := hw'; subst hw''
    go_wp2
    go_ret
    exact ⟨rfl, hb1⟩
  · rw [hg] at HAL
    rw [Bool.true_and]
    by_cases hl : a.secs.length = b.secs.length
    · have hs : sameS a.secs b.secs = eqDS a.secs b.secs := by unfold sameS; rw [if_pos hl]
      have hi : ((a.secs.length : Int) != (b.secs.length : Int)) = false := by simp [hl]
      have HL := Lib.hid hl
      rw [hs]
      clear hl hs
      go_enter Try.func103, Try.ntmps103
      go_wp2_with (fail)
      refine wp_region_wb (by kernel_rfl) (by kernel_rfl) ?_; (repeat (go_big_quiet_step ((go_at_call 126; exact Wb.calls (HAL.out _))))); refine wpQuiet_nil ?_; intro w1 hw'; obtain ⟨⟨w2, hb1⟩, hw''⟩ := hw'; subst hw''
      have z2 := hb1.size
      clear a4 b4
      go_wp2
      go_loopw [5] (fun i wr => ∃ k : Nat, k ≤ a.secs.length ∧ i = .int .i64 k ∧ Below w.heap.size w wr ∧ Hid (eqDS a.secs b.secs = eqDS (a.secs.drop k) (b.secs.drop k))) (fun i _ => a.secs.length - (intOf i).toNat)
      case atStart => exact ⟨0, by omega, rfl, hb1, Lib.hid rfl⟩
      case round =>
        obtain ⟨k, hk, rfl, hbw, HK⟩ := hrel
        have pa' := (hbw.cell (p := ⟨ga, 4, none⟩) hga).trans pa
        have pb' := (hbw.cell (p := ⟨gb, 4, none⟩) hgb).trans pb
        by_cases hlt : k < a.secs.length
        · have hlb : k < b.secs.length := by have := HL.out; omega
          obtain ⟨x, hx⟩ : ∃ x, a.secs[k]? = some x := ⟨a.secs[k], List.getElem?_eq_getElem hlt⟩
          obtain ⟨y, hy⟩ : ∃ y, b.secs[k]? = some y := ⟨b.secs[k], List.getElem?_eq_getElem hlb⟩
          obtain ⟨g, rfl, _, hg1⟩ := hA.resolve_left (by intro h; rw [h] at hlt; simp at hlt)
          obtain ⟨g', rfl, _, hg2⟩ := hA'.resolve_left (by intro h; rw [h] at hlb; simp at hlb)
          have r0 := (hbw.cell (p := ⟨g, k * 2, none⟩) hg1).trans (sec_cells HA.out rfl hx).1
          have r1 := (hbw.cell (p := ⟨g, k * 2 + 1, none⟩) hg1).trans (sec_cells HA.out rfl hx).2
          have s0 := (hbw.cell (p := ⟨g', k * 2, none⟩) hg2).trans (sec_cells HBo.out rfl hy).1
          have s1 := (hbw.cell (p := ⟨g', k * 2 + 1, none⟩) hg2).trans (sec_cells HBo.out rfl hy).2
          have j0 : (0 : Int) ≤ (k : Int) := by omega
          have j1 : (k : Int) < (a.secs.length : Int) := by omega
          have j2 : (k : Int) < (b.secs.length : Int) := by omega
          have HX := Lib.hid hx
          have HY := Lib.hid hy
          clear hx hy
          have hse : secEq x y = ((x.data.toList == y.data.toList) && (x.state == y.state)) := rfl
          cases hc : (x.data.toList == y.data.toList)
          · have HN := Lib.hid (es_no HX.out HY.out HK (by rw [hse, hc]; rfl))
            clear hse
            go_wp2
            go_quiet (fail)
            go_wp2
            go_ret
            exact ⟨ret_bool HN.out.symm, hbw.trans (((Qt.refl _).drewN _).below _)⟩
          · cases hc2 : (x.state == y.state)
            · have HN := Lib.hid (es_no HX.out HY.out HK (by rw [hse, hc, hc2]; rfl))
              clear hse
              go_wp2
              go_quiet (fail)
              go_wp2
              go_ret
              exact ⟨ret_bool HN.out.symm, hbw.trans (((Qt.refl _).drewN _).below _)⟩
            · have HN := es_yes HX.out HY.out HK (by rw [hse, hc, hc2]; rfl)
              clear hse
              go_wp2
              go_quiet (fail)
              go_wp2
              go_roundw
              case rel => exact ⟨k + 1, by omega, by go_num, hbw.trans (((Qt.refl _).drewN _).below _), HN⟩
              case measure => simp [intOf]; omega
        · have HX := Lib.hid (show eqDS a.secs b.secs = true from by rw [HK.out, List.drop_of_length_le (by omega)]; cases b.secs.drop k <;> rfl)
          go_wp2
          go_ret
          exact ⟨ret_bool HX.out.symm, hbw⟩
    · have hs : sameS a.secs b.secs = false := by unfold sameS; rw [if_neg hl]
      have hi : ((a.secs.length : Int) != (b.secs.length : Int)) = true := by simp; omega
      rw [hs]
      clear hl hs
      go_enter Try.func103, Try.ntmps103
      go_wp2_with (fail)
      refine wp_region_wb (by kernel_rfl) (by kernel_rfl) ?_; (repeat (go_big_quiet_step ((go_at_call 126; exact Wb.calls (HAL.out _))))); refine wpQuiet_nil ?_; intro w1 hw'; obtain ⟨⟨w2, hb1⟩, hw''⟩ := hw'; subst hw''
      go_wp2
      go_ret
      exact ⟨rfl, hb1⟩
set_option maxRecDepth 20000 in
set_option maxHeartbeats 4000000 in
theorem samed_s (Ba Bb : Nat) (a b : Dsc) (va vb : Value) (w : World) (ha : SecOwn Ba w va a.secs) (hb : SecOwn Bb w vb b.secs) (hn : a.secs.length ≤ 8388608) (hm : b.secs.length ≤ 8388608) :
    Calls Try.prog 60 #[dscV a va, dscV b vb] w fun e w' => e = .returned (.bool (sameD a b)) ∧ Below w.heap.size w w' := by
  have HA := Lib.hid ha
  have HBo := Lib.hid hb
  obtain ⟨A, c, rfl, _⟩ := OwnL.shape ha
  obtain ⟨A', c', rfl, _⟩ := OwnL.shape hb
  have HB : Below w.heap.size w ((w.alloc (.cells #[.int .i64 a.cyl, .int .i64 a.heads, .int .i64 a.per, .int .i64 a.size, .slice A a.secs.length c] 39)).alloc (.cells #[.int .i64 b.cyl, .int .i64 b.heads, .int .i64 b.per, .int .i64 b.size, .slice A' b.secs.length c'] 39)) := (by repeat (first | exact Below.refl _ _ | refine Below.alloc ?_ (by first | omega | (simp; done) | (simp; omega)) _ | apply Below.drew | apply below_drewN | refine Below.setCell ?_ (by first | omega | (simp; done) | (simp; omega)) _ | refine Below.trans ?_ (Below.mono (by assumption) (by first | omega | (simp; done) | (simp; omega)))))
  have HS := Lib.hid (l12same_s Ba Bb w.heap.size (w.heap.size + 1) a b _ _ ((w.alloc (.cells #[.int .i64 a.cyl, .int .i64 a.heads, .int .i64 a.per, .int .i64 a.size, .slice A a.secs.length c] 39)).alloc (.cells #[.int .i64 b.cyl, .int .i64 b.heads, .int .i64 b.per, .int .i64 b.size, .slice A' b.secs.length c'] 39)) (OwnL.below HA.out HB) (OwnL.below HBo.out HB) hn hm
    (fun j u hu => by
      match j, hu with
      | 0, hu => (simp [Dsc.ints] at hu; subst hu; simp)
      | 1, hu => (simp [Dsc.ints] at hu; subst hu; simp)
      | 2, hu => (simp [Dsc.ints] at hu; subst hu; simp)
      | 3, hu => (simp [Dsc.ints] at hu; subst hu; simp)
      | 4, hu => (simp [Dsc.ints] at hu; subst hu; simp)
      | j + 5, hu => simp [Dsc.ints] at hu)
    (fun j u hu => by
      match j, hu with
      | 0, hu => (simp [Dsc.ints] at hu; subst hu; simp)
      | 1, hu => (simp [Dsc.ints] at hu; subst hu; simp)
      | 2, hu => (simp [Dsc.ints] at hu; subst hu; simp)
      | 3, hu => (simp [Dsc.ints] at hu; subst hu; simp)
      | 4, hu => (simp [Dsc.ints] at hu; subst hu; simp)
      | j + 5, hu => simp [Dsc.ints] at hu))
  go_enter Try.func60, Try.ntmps60
  go_wp2_with (fail)
  refine HS.out.mono ?_; rintro e w1 ⟨rfl, hb1⟩
  go_wp2
  go_ret
  exact ⟨rfl, HB.trans (hb1.mono (by simp; omega))⟩
end Go.Proofs.Ytignjjkldmninaa
