/- The walk of FnExactMergeSector. Begun by gen_law.py, then by hand (a struct among the results). -/
import Derived.Test.YtignjjkldmninaaMgF
namespace Go.Proofs.Ytignjjkldmninaa
set_option linter.unusedVariables false
open Go.RowKit

set_option maxRecDepth 20000 in
set_option maxHeartbeats 4000000 in
theorem walkFnExactMergeSector (l : List Sec) (v_l : Value) (w : World) (r_l : RSectorS.raw w v_l l) :
    Calls Try.prog 6 #[v_l] w fun e w' => e = .returned (.bool true) ∧ Below w.heap.size w w' := by
  by_cases q_l : ((RSectorS.wt l : Nat) : Int) ≤ 1048576
  rotate_left
  · have H0 : szR (1048576) (RSectorS.wt l) < 0 := szR_neg.2 q_l
    go_enter Try.func6, Try.ntmps6
    go_wp2_with (fail)
    refine (r_szSectorS l v_l _ _ (RSectorS.rawk r_l (by repeat (first | exact Below.refl _ _ | refine Below.alloc ?_ (by first | omega | (simp; done) | (simp; omega)) _ | apply Below.drew | apply below_drewN | refine Below.setCell ?_ (by first | omega | (simp; done) | (simp; omega)) _ | refine Below.trans ?_ (Below.mono (by assumption) (by first | omega | (simp; done) | (simp; omega)))))) (by omega)).mono ?_; rintro e w1 ⟨rfl, hb1⟩
    have hz1 := hb1.size
    go_wp2_with (fail)
    go_ret
    exact ⟨rfl, (by repeat (first | exact Below.refl _ _ | refine Below.alloc ?_ (by first | omega | (simp; done) | (simp; omega)) _ | apply Below.drew | apply below_drewN | refine Below.setCell ?_ (by first | omega | (simp; done) | (simp; omega)) _ | refine Below.trans ?_ (Below.mono (by assumption) (by first | omega | (simp; done) | (simp; omega)))))⟩
  have H0 : 0 ≤ szR (1048576) (RSectorS.wt l) := szR_pos.2 q_l
  have hw_l : l.length + Sec.wts l ≤ 1048576 := by have : ((l.length + Sec.wts l : Nat) : Int) ≤ 1048576 := q_l; omega
  have hn_l : l.length ≤ 1048576 := by omega
  have hm_l : ∀ s ∈ l, s.data.size ≤ maxLen := r_l.2
  have cnt_l : RSectorS.cnt l ≤ 8388608 := by show l.length * 2 ≤ _; omega
  generalize hM : mgE l = M at *
  go_enter Try.func6, Try.ntmps6
  go_wp2_with (fail)
  refine (r_szSectorS l v_l _ _ (RSectorS.rawk r_l (Below.refl _ _)) (by omega)).mono ?_; rintro e w1 ⟨rfl, hb1⟩
  have hz1 := hb1.size
  have hB1 : Below w.heap.size w w1 := hb1
  go_wp2_with (fail)
  refine (r_toSectorS l v_l _ (RSectorS.rawk r_l (hB1)) (by omega)).mono ?_; rintro e w2 ⟨v2, rfl, o2, hb2⟩
  have hz2 := hb2.size
  have hB2 : Below w.heap.size w w2 := hB1.trans (hb2.mono (by omega))
  go_wp2_with (fail)
  refine (mge_s _ l _ _ o2.1 hn_l hm_l).mono ?_; rintro e w3 ⟨rfl, hb3⟩
  have hz3 := hb3.size
  have hB3 : Below w.heap.size w w3 := hB2.trans (hb3.mono (by omega))
  obtain ⟨⟨sd, ss⟩, mf, ma, mb⟩ := M
  simp only [mgT]
  have b3 : Below w3.heap.size w3 (w3.alloc (.cells #[.string sd, .int .i64 ss] 48)) := Below.alloc (Below.refl _ _) (Nat.le_refl _) _
  have hB3' := hB3.trans (b3.mono (by omega))
  have k0 : (w3.alloc (.cells #[.string sd, .int .i64 ss] 48)).cell? ⟨w3.heap.size, 0, none⟩ = some (.string sd) := by simp [go_sem]
  have k1 : (w3.alloc (.cells #[.string sd, .int .i64 ss] 48)).cell? ⟨w3.heap.size, 1, none⟩ = some (.int .i64 ss) := by simp [go_sem]
  have kz : w3.heap.size < (w3.alloc (.cells #[.string sd, .int .i64 ss] 48)).heap.size := by simp
  go_wp2_with (fail)
  refine (r_toSectorS l v_l _ (RSectorS.rawk r_l (hB3')) (by omega)).mono ?_; rintro e w4 ⟨v4, rfl, o4, hb4⟩
  have hz4 := hb4.size
  have hB4 : Below w.heap.size w w4 := hB3'.trans (hb4.mono hB3'.size)
  have k04 := (hb4.cell (p := ⟨w3.heap.size, 0, none⟩) kz).trans k0
  have k14 := (hb4.cell (p := ⟨w3.heap.size, 1, none⟩) kz).trans k1
  have kz4 : w3.heap.size < w4.heap.size := by omega
  have HI := Lib.hid (mge_i _ l _ _ o4.1 hn_l hm_l)
  rw [hM] at HI
  simp only [mgT] at HI
  go_wp2_with (fail)
  refine HI.out.mono ?_; rintro e w5 ⟨rfl, hb5⟩
  have hz5 := hb5.size
  have hB5 : Below w.heap.size w w5 := hB4.trans (hb5.mono (by omega))
  have k05 := (hb5.cell (p := ⟨w3.heap.size, 0, none⟩) kz4).trans k04
  have k15 := (hb5.cell (p := ⟨w3.heap.size, 1, none⟩) kz4).trans k14
  have b5 : Below w5.heap.size w5 (w5.alloc (.cells #[.string sd, .int .i64 ss] 48)) := Below.alloc (Below.refl _ _) (Nat.le_refl _) _
  have hB5' := hB5.trans (b5.mono (by omega))
  have k06 := (b5.cell (p := ⟨w3.heap.size, 0, none⟩) (by show w3.heap.size < _; omega)).trans k05
  have k16 := (b5.cell (p := ⟨w3.heap.size, 1, none⟩) (by show w3.heap.size < _; omega)).trans k15
  have j0 : (w5.alloc (.cells #[.string sd, .int .i64 ss] 48)).cell? ⟨w5.heap.size, 0, none⟩ = some (.string sd) := by simp [go_sem]
  have j1 : (w5.alloc (.cells #[.string sd, .int .i64 ss] 48)).cell? ⟨w5.heap.size, 1, none⟩ = some (.int .i64 ss) := by simp [go_sem]
  have o_x0_5 := Rep.keep (R := RSectorS) (Rep.keep (R := RSectorS) o4 hb5) b5
  have HE := Lib.hid (fun W => eqSector ⟨sd, ss⟩ W)
  have hne : w3.heap.size ≠ w5.heap.size := by omega
  go_wp2_with (fail)
  refine (HE.out _).mono ?_; rintro e w6 ⟨rfl, hb6⟩
  have hz6 := hb6.size
  have hB6 : Below w.heap.size w w6 := hB5'.trans (hb6.mono hB5'.size)
  have o_x0_6 := Rep.keep (R := RSectorS) o_x0_5 hb6
  go_wp2_with (fail)
  refine (r_toSectorS l v_l _ (RSectorS.rawk r_l (hB6)) (by omega)).mono ?_; rintro e w7 ⟨v7, rfl, o7, hb7⟩
  have hz7 := hb7.size
  have hB7 : Below w.heap.size w w7 := hB6.trans (hb7.mono hB6.size)
  have o_x0_7 := Rep.keep (R := RSectorS) o_x0_6 hb7
  go_wp2_with (fail)
  refine (r_eqSectorS l _ _ _ _ _ _ _ o_x0_7 o7 cnt_l).mono ?_; rintro e w8 ⟨rfl, hb8⟩
  have hB8 : Below w.heap.size w w8 := hB7.trans (hb8.mono hB7.size)
  go_wp2_with (fail)
  go_ret
  exact ⟨rfl, hB8⟩
end Go.Proofs.Ytignjjkldmninaa
