/- The laws' own helpers over equations: comparison. -/
import Derived.Test.YthchdbjgjnpooaaDoorHEqn2
namespace Go.Proofs.YthchdbjgjnpooaaDoor
set_option linter.unusedVariables false
set_option linter.unusedSimpArgs false
open Go.RowKit
set_option maxHeartbeats 1000000 in
theorem eqEqn (bits : List Int) (r : Int) (va vb : Value) (Ba Bb : Nat) (w : World) (ha : Int64L Ba w va bits) (hb : Int64L Bb w vb bits) (hn : bits.length ≤ 8388608) :
    Calls Tryd.prog 33 #[.agg #[va, .int .i64 r], .agg #[vb, .int .i64 r]] w fun e w' => e = .returned (.bool true) ∧ Below w.heap.size w w' := by
  have hs := fun w' (h : Below w.heap.size w w') => (eqInt64S bits va vb Ba Bb w' (OwnL.below ha h) (OwnL.below hb h) hn).mono (R' := fun e w'' => e = .returned (.bool true) ∧ Below w'.heap.size w' w'') fun _ _ ⟨a, b⟩ => ⟨a, b.below _⟩
  obtain ⟨A, c, rfl, _⟩ := ha.shape
  obtain ⟨A', c', rfl, _⟩ := hb.shape
  have HS := Lib.hid hs
  clear hs ha hb
  go_enter Tryd.func33, Tryd.ntmps33
  go_wp2_with (fail)
  refine (HS.out _ (by repeat (first | exact Below.refl _ _ | refine Below.alloc ?_ (by first | omega | (simp; done) | (simp; omega)) _ | apply Below.drew | apply below_drewN | refine Below.setCell ?_ (by first | omega | (simp; done) | (simp; omega)) _ | refine Below.trans ?_ (Below.mono (by assumption) (by first | omega | (simp; done) | (simp; omega)))))).mono ?_; rintro e w1 ⟨rfl, hb1⟩
  obtain ⟨hc1, hf1⟩ := bcell hb1
  have hz1 : w.heap.size + 2 ≤ w1.heap.size := by have := hb1.size; (try simp at this); omega
  have p1 : w1.cell? ⟨w.heap.size, 1, none⟩ = some (.int .i64 r) := by rw [hc1 w.heap.size 1 (by simp; omega)]; simp [go_sem]
  have p2 : w1.cell? ⟨w.heap.size + 1, 1, none⟩ = some (.int .i64 r) := by rw [hc1 (w.heap.size + 1) 1 (by simp)]; simp [go_sem]
  clear hc1 hf1
  go_wp2
  go_ret
  exact ⟨rfl, (by repeat (first | exact Below.refl _ _ | refine Below.alloc ?_ (by first | omega | (simp; done) | (simp; omega)) _ | apply Below.drew | apply below_drewN | refine Below.setCell ?_ (by first | omega | (simp; done) | (simp; omega)) _ | refine Below.trans ?_ (Below.mono (by assumption) (by first | omega | (simp; done) | (simp; omega)))))⟩
set_option maxHeartbeats 2000000 in
theorem eqEqnS (l : List Eqn) (va vb : Value) (Ba Bb : Nat) (w : World) (ha : EqOwn Ba w va l) (hb0 : EqOwn Bb w vb l) (hn : l.length ≤ 8388608) (hbl : ∀ e ∈ l, e.bits.length ≤ 8388608) :
    Calls Tryd.prog 15 #[va, vb] w fun e w' => e = .returned (.bool true) ∧ Below w.heap.size w w' := by
  obtain ⟨A, c, rfl, hA⟩ := ha
  obtain ⟨A', c', rfl, hA'⟩ := hb0
  by_cases hl0 : l = []
  · subst hl0
    go_enter Tryd.func15, Tryd.ntmps15
    go_wp2
    refine wp_loop_once ?_
    go_wp2
    go_ret
    exact ⟨rfl, Below.refl _ _⟩
  · obtain ⟨ga, rfl, _, hga, hca⟩ := hA.resolve_left hl0
    obtain ⟨gb, rfl, _, hgb, hcb⟩ := hA'.resolve_left hl0
    have HCA := Lib.hid hca
    have HCB := Lib.hid hcb
    clear hA hA' hca hcb
    go_enter Tryd.func15, Tryd.ntmps15
    go_wp2
    go_loopw [5] (fun i wr => ∃ k : Nat, k ≤ l.length ∧ i = .int .i64 k ∧ Below w.heap.size w wr) (fun i _ => l.length - (intOf i).toNat)
    case atStart => exact ⟨0, by omega, rfl, Below.refl _ _⟩
    case round =>
      obtain ⟨k, hk, rfl, hb⟩ := hrel
      by_cases hltk : k < l.length
      · obtain ⟨e, he⟩ : ∃ e, l[k]? = some e := ⟨l[k]'(by omega), List.getElem?_eq_getElem (by omega)⟩
        have hz : w.heap.size ≤ wr.heap.size := hb.size
        obtain ⟨bva, a1, a2, a3⟩ := HCA.out k e he
        obtain ⟨bvb, b1, b2, b3⟩ := HCB.out k e he
        have r0 : ∀ x : Wb wr, x.1.cell? ⟨ga, k * 2, none⟩ = some bva := fun x => Wb.cell ((hb.cell (p := ⟨ga, _, none⟩) hga).trans a1) x
        have r1 : ∀ x : Wb wr, x.1.cell? ⟨ga, k * 2 + 1, none⟩ = some (.int .i64 e.right) := fun x => Wb.cell ((hb.cell (p := ⟨ga, _, none⟩) hga).trans a3) x
        have s0 : ∀ x : Wb wr, x.1.cell? ⟨gb, k * 2, none⟩ = some bvb := fun x => Wb.cell ((hb.cell (p := ⟨gb, _, none⟩) hgb).trans b1) x
        have s1 : ∀ x : Wb wr, x.1.cell? ⟨gb, k * 2 + 1, none⟩ = some (.int .i64 e.right) := fun x => Wb.cell ((hb.cell (p := ⟨gb, _, none⟩) hgb).trans b3) x
        have HEQ : Hid (∀ x : Wb wr, Calls Tryd.prog 33 #[.agg #[bva, .int .i64 e.right], .agg #[bvb, .int .i64 e.right]] x.1 fun e w' => e = .returned (.bool true) ∧ Below x.1.heap.size x.1 w') := Lib.hid (fun x => eqEqn e.bits e.right bva bvb Ba Bb x.1 (OwnL.below (OwnL.below a2 hb) x.2) (OwnL.below (OwnL.below b2 hb) x.2) (hbl e (List.mem_of_getElem? he)))
        obtain ⟨A2, c2, rfl, _⟩ := OwnL.shape a2
        obtain ⟨A3, c3, rfl, _⟩ := OwnL.shape b2
        clear a1 a2 a3 b1 b2 b3 he
        go_wp2
        refine wp_region_wb (by kernel_rfl) (by kernel_rfl) ?_
        repeat (go_big_quiet_step ((go_at_call 33; exact Wb.calls (HEQ.out _))))
        refine wpQuiet_nil ?_; intro w1 hw'; obtain ⟨⟨w2, hb1⟩, hw''⟩ := hw'; subst hw''
        go_wp2
        go_roundw
        case rel => exact ⟨k + 1, by omega, by go_num, (by repeat (first | exact Below.refl _ _ | refine Below.alloc ?_ (by first | omega | (simp; done) | (simp; omega)) _ | apply Below.drew | apply below_drewN | refine Below.setCell ?_ (by first | omega | (simp; done) | (simp; omega)) _ | refine Below.trans ?_ (Below.mono (by assumption) (by first | omega | (simp; done) | (simp; omega)))))⟩
        case measure => simp [intOf]; omega
      · go_wp2
        go_ret
        exact ⟨rfl, hb⟩
end Go.Proofs.YthchdbjgjnpooaaDoor
