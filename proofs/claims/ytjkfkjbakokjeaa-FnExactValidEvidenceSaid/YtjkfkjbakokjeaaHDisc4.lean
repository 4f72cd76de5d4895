/- The laws' own helpers over discs: comparison. -/
import Derived.Test.YtjkfkjbakokjeaaHDisc3
namespace Go.Proofs.Ytjkfkjbakokjeaa
set_option linter.unusedVariables false
open Go.RowKit
set_option maxHeartbeats 2000000 in
theorem eqDsc (d : Dsc) (va vb : Value) (Ba Bb : Nat) (w : World) (ha : SecOwn Ba w va d.secs) (hb : SecOwn Bb w vb d.secs) (hn : d.secs.length ≤ 8388608) :
    Calls Try.prog 22 #[dscV d va, dscV d vb] w fun e w' => e = .returned (.bool true) ∧ Below w.heap.size w w' := by
  have hs := fun w' (h : Below w.heap.size w w') => eqSectorS d.secs va vb Ba Bb w' (OwnL.below ha h) (OwnL.below hb h) hn
  obtain ⟨A, c, rfl, _⟩ := OwnL.shape ha
  obtain ⟨A', c', rfl, _⟩ := OwnL.shape hb
  have HS := Lib.hid hs
  clear hs ha hb
  go_enter Try.func22, Try.ntmps22
  go_wp2_with (fail)
  refine (HS.out _ (by repeat (first | exact Below.refl _ _ | refine Below.alloc ?_ (by first | omega | (simp; done) | (simp; omega)) _ | apply Below.drew | apply below_drewN | refine Below.setCell ?_ (by first | omega | (simp; done) | (simp; omega)) _ | refine Below.trans ?_ (Below.mono (by assumption) (by first | omega | (simp; done) | (simp; omega)))))).mono ?_; rintro e w1 ⟨rfl, hb1⟩
  go_wp2
  go_ret
  exact ⟨rfl, (by repeat (first | exact Below.refl _ _ | refine Below.alloc ?_ (by first | omega | (simp; done) | (simp; omega)) _ | apply Below.drew | apply below_drewN | refine Below.setCell ?_ (by first | omega | (simp; done) | (simp; omega)) _ | refine Below.trans ?_ (Below.mono (by assumption) (by first | omega | (simp; done) | (simp; omega)))))⟩
set_option maxHeartbeats 2000000 in
theorem eqDscS (l : List Dsc) (va vb : Value) (Ba Bb : Nat) (w : World) (ha : DscOwn Ba w va l) (hb0 : DscOwn Bb w vb l) (hn : l.length ≤ 8388608) (hbl : ∀ e ∈ l, e.secs.length ≤ 8388608) :
    Calls Try.prog 53 #[va, vb] w fun e w' => e = .returned (.bool true) ∧ Below w.heap.size w w' := by
  obtain ⟨A, c, rfl, hA⟩ := ha
  obtain ⟨A', c', rfl, hA'⟩ := hb0
  by_cases hl0 : l = []
  · subst hl0
    go_enter Try.func53, Try.ntmps53
    go_wp2
    refine wp_loop_once ?_
    go_wp2
    go_ret
    exact ⟨rfl, Below.refl _ _⟩
  · obtain ⟨ga, rfl, _, hga, hca⟩ := hA.resolve_left hl0
    obtain ⟨gb, rfl, _, hgb, hcb⟩ := hA'.resolve_left hl0
    have HCA := Lib.hid hca
    have HCB := Lib.hid hcb
    clear hA hA' hca hcb
    go_enter Try.func53, Try.ntmps53
    go_wp2
    go_loopw [5] (fun i wr => ∃ k : Nat, k ≤ l.length ∧ i = .int .i64 k ∧ Below w.heap.size w wr) (fun i _ => l.length - (intOf i).toNat)
    case atStart => exact ⟨0, by omega, rfl, Below.refl _ _⟩
    case round =>
      obtain ⟨k, hk, rfl, hb⟩ := hrel
      by_cases hltk : k < l.length
      · obtain ⟨e, he⟩ : ∃ e, l[k]? = some e := ⟨l[k]'(by omega), List.getElem?_eq_getElem (by omega)⟩
        have hz : w.heap.size ≤ wr.heap.size := hb.size
        obtain ⟨bva, a1, a2⟩ := HCA.out k e he
        obtain ⟨bvb, b1, b2⟩ := HCB.out k e he
        have RA := fun (j : Nat) (u : Value) (hu : (e.ints ++ [bva])[j]? = some u) (x : Wb wr) => Wb.cell (b := ga) (o := k * 5 + j) ((hb.cell (p := ⟨ga, _, none⟩) hga).trans (a2 j u hu)) x
        have RB := fun (j : Nat) (u : Value) (hu : (e.ints ++ [bvb])[j]? = some u) (x : Wb wr) => Wb.cell (b := gb) (o := k * 5 + j) ((hb.cell (p := ⟨gb, _, none⟩) hgb).trans (b2 j u hu)) x
        have r0 : ∀ x : Wb wr, x.1.cell? ⟨ga, k * 5, none⟩ = some (.int .i64 e.cyl) := RA 0 _ rfl
        have r1 := RA 1 _ rfl
        have r2 := RA 2 _ rfl
        have r3 := RA 3 _ rfl
        have r4 := RA 4 _ rfl
        have s0 : ∀ x : Wb wr, x.1.cell? ⟨gb, k * 5, none⟩ = some (.int .i64 e.cyl) := RB 0 _ rfl
        have s1 := RB 1 _ rfl
        have s2 := RB 2 _ rfl
        have s3 := RB 3 _ rfl
        have s4 := RB 4 _ rfl
        have HEQ : Hid (∀ x : Wb wr, Calls Try.prog 22 #[dscV e bva, dscV e bvb] x.1 fun e w' => e = .returned (.bool true) ∧ Below x.1.heap.size x.1 w') := Lib.hid (fun x => eqDsc e bva bvb Ba Bb x.1 (OwnL.below (OwnL.below a1 hb) x.2) (OwnL.below (OwnL.below b1 hb) x.2) (hbl e (List.mem_of_getElem? he)))
        obtain ⟨A2, c2, rfl, _⟩ := OwnL.shape a1
        obtain ⟨A3, c3, rfl, _⟩ := OwnL.shape b1
        clear a1 a2 b1 b2 he RA RB
        go_wp2
        refine wp_region_wb (by kernel_rfl) (by kernel_rfl) ?_
        repeat (go_big_quiet_step ((go_at_call 22; exact Wb.calls (HEQ.out _))))
        refine wpQuiet_nil ?_; intro w1 hw'; obtain ⟨⟨w2, hb1⟩, hw''⟩ := hw'; subst hw''
        go_wp2
        go_roundw
        case rel => exact ⟨k + 1, by omega, by go_num, (by repeat (first | exact Below.refl _ _ | refine Below.alloc ?_ (by first | omega | (simp; done) | (simp; omega)) _ | apply Below.drew | apply below_drewN | refine Below.setCell ?_ (by first | omega | (simp; done) | (simp; omega)) _ | refine Below.trans ?_ (Below.mono (by assumption) (by first | omega | (simp; done) | (simp; omega)))))⟩
        case measure => simp [intOf]; omega
      · go_wp2
        go_ret
        exact ⟨rfl, hb⟩
end Go.Proofs.Ytjkfkjbakokjeaa
