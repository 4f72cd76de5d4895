/- The walk of FnExactReadCertificate. -/
import Derived.Test.YtkpjjohanbiagaaDoorRcJ
namespace Go.Proofs.YtkpjjohanbiagaaDoor
set_option linter.unusedVariables false
set_option linter.unusedSimpArgs false
open Go.RowKit
set_option maxRecDepth 20000 in
set_option maxHeartbeats 4000000 in
theorem walkFnExactReadCertificate (s : ByteArray) (w : World) (m_s : s.size ≤ maxLen) (env : EnvR w) (wd : Wrd w) :
    Calls Tryd.prog 3 #[.string s] w fun e w' => e = .returned (.bool true) ∧ Below w.heap.size w w' := by
  unfold maxLen at m_s
  by_cases q_s : s.size ≤ 1048576
  rotate_left
  · go_enter Tryd.func3, Tryd.ntmps3
    go_wp2_with (fail)
    go_ret
    exact ⟨rfl, (by repeat (first | exact Below.refl _ _ | refine Below.alloc ?_ (by first | omega | (simp; done) | (simp; omega)) _ | apply Below.drew | apply below_drewN | refine Below.setCell ?_ (by first | omega | (simp; done) | (simp; omega)) _ | refine Below.trans ?_ (Below.mono (by assumption) (by first | omega | (simp; done) | (simp; omega)))))⟩
  have cnt_res : RSourceS.cnt (rcS s.data.toList).1 ≤ 8388608 := by show (rcS s.data.toList).1.length * 3 ≤ _; have := rcS_len s.data.toList; omega
  go_enter Tryd.func3, Tryd.ntmps3
  go_wp2_with (fail)
  refine (readc_s s _ q_s).mono ?_; rintro e w1 ⟨v1, rfl, o1, hb1⟩
  have hz1 := hb1.size
  obtain ⟨A1, c1, rfl, -⟩ := OwnL.shape o1.1
  have ha1 : Below w1.heap.size w1 (w1.alloc (.cells #[.slice A1 (rcS s.data.toList).1.length c1] 24)) := Below.alloc (Below.refl _ _) (Nat.le_refl _) _
  have k1 := Boxed.new w1 24 (.slice A1 (rcS s.data.toList).1.length c1)
  have o1x := Rep.keep (R := RSourceS) o1 ha1
  have s1 : (w1.alloc (.cells #[.slice A1 (rcS s.data.toList).1.length c1] 24)).heap.size = w1.heap.size + 1 := by simp
  go_wp2_with (fail)
  generalize (w1.alloc (.cells #[.slice A1 (rcS s.data.toList).1.length c1] 24)) = x1 at *
  have hX1 : Below w.heap.size w x1 := hb1.trans (ha1.mono hz1)
  have hzx1 := hX1.size
  refine (readc_i s _ q_s (env.below hX1) (wd.below hX1)).mono ?_; rintro e w2 ⟨v2, rfl, o2, hb2⟩
  have hz2 := hb2.size
  obtain ⟨A2, c2, rfl, -⟩ := OwnL.shape o2.1
  have ha2 : Below w2.heap.size w2 (w2.alloc (.cells #[.slice A2 (rcS s.data.toList).1.length c2] 24)) := Below.alloc (Below.refl _ _) (Nat.le_refl _) _
  have k2 := Boxed.new w2 24 (.slice A2 (rcS s.data.toList).1.length c2)
  have o2x := Rep.keep (R := RSourceS) o2 ha2
  have o1y := Rep.keep (R := RSourceS) (Rep.keep (R := RSourceS) o1x hb2) ha2
  have s2 : (w2.alloc (.cells #[.slice A2 (rcS s.data.toList).1.length c2] 24)).heap.size = w2.heap.size + 1 := by simp
  have k1y : Boxed (w2.alloc (.cells #[.slice A2 (rcS s.data.toList).1.length c2] 24)) w1.heap.size 24 (.slice A1 (rcS s.data.toList).1.length c1) := Boxed.alloc ((hb2.block _ (Boxed.lt k1)).trans k1) _
  have p1 := k1y.cell
  have p2 := k2.cell
  go_wp2_with (fail)
  generalize (w2.alloc (.cells #[.slice A2 (rcS s.data.toList).1.length c2] 24)) = x2 at *
  have hX2 : Below w.heap.size w x2 := (hX1.trans (hb2.mono hzx1)).trans (ha2.mono (by omega))
  refine (eqCert (rcS s.data.toList).1 _ _ _ _ _ _ x2 o2x o1y cnt_res).mono ?_; rintro e w3 ⟨rfl, hb3⟩
  have hz3 := hb3.size
  have hB3 : Below w.heap.size w w3 := hX2.trans (hb3.mono (by omega))
  have o1_3 := Rep.keep (R := RSourceS) o1y hb3
  have o2_3 := Rep.keep (R := RSourceS) o2x hb3
  have k1_3 : Boxed w3 w1.heap.size 24 (.slice A1 (rcS s.data.toList).1.length c1) := (hb3.block _ (Boxed.lt k1y)).trans k1y
  have k2_3 : Boxed w3 w2.heap.size 24 (.slice A2 (rcS s.data.toList).1.length c2) := (hb3.block _ (Boxed.lt k2)).trans k2
  clear p1 p2
  have p1 := k1_3.cell
  have p2 := k2_3.cell
  go_wp2_with (fail)
  refine (markCert (rcS s.data.toList).1 _ (1) _ _ w3 o2_3 (by omega) cnt_res (by omega) (by omega)).mono ?_; rintro e w4 ⟨rfl, o4, hc4⟩
  have hz4 := hc4.size
  have hB4 : Below w.heap.size w w4 := Chg.below hB3 hc4 (by omega) (Nat.le_refl _)
  have o1_4 := RSourceS.chg o1_3 hc4 (by omega)
  have k1_4 : Boxed w4 w1.heap.size 24 (.slice A1 (rcS s.data.toList).1.length c1) := (hc4.block _ (Boxed.lt k1_3) (by omega)).trans k1_3
  have k2_4 : Boxed w4 w2.heap.size 24 (.slice A2 (rcS s.data.toList).1.length c2) := (hc4.block _ (Boxed.lt k2_3) (by omega)).trans k2_3
  clear p1 p2
  have p1 := k1_4.cell
  have p2 := k2_4.cell
  go_wp2_with (fail)
  refine (heldCert (rcS s.data.toList).1 _ (1) _ _ w4 o4 cnt_res (by omega) (by omega)).mono ?_; rintro e w5 ⟨rfl, hb5⟩
  have hz5 := hb5.size
  have hB5 : Below w.heap.size w w5 := hB4.trans (hb5.mono hB4.size)
  have o1_5 := Rep.keep (R := RSourceS) o1_4 hb5
  have o2_5 := Rep.keep (R := RSourceS) o4 hb5
  have k1_5 : Boxed w5 w1.heap.size 24 (.slice A1 (rcS s.data.toList).1.length c1) := (hb5.block _ (Boxed.lt k1_4)).trans k1_4
  have k2_5 : Boxed w5 w2.heap.size 24 (.slice A2 (rcS s.data.toList).1.length c2) := (hb5.block _ (Boxed.lt k2_4)).trans k2_4
  clear p1 p2
  have p1 := k1_5.cell
  have p2 := k2_5.cell
  go_wp2_with (fail)
  refine (readc_i s _ q_s (env.below hB5) (wd.below hB5)).mono ?_; rintro e w6 ⟨v6, rfl, o6, hb6⟩
  have hz6 := hb6.size
  obtain ⟨A6, c6, rfl, -⟩ := OwnL.shape o6.1
  have ha6 : Below w6.heap.size w6 (w6.alloc (.cells #[.slice A6 (rcS s.data.toList).1.length c6] 24)) := Below.alloc (Below.refl _ _) (Nat.le_refl _) _
  have k6 := Boxed.new w6 24 (.slice A6 (rcS s.data.toList).1.length c6)
  have o6x := Rep.keep (R := RSourceS) o6 ha6
  have o1_6 := Rep.keep (R := RSourceS) (Rep.keep (R := RSourceS) o1_5 hb6) ha6
  have o2_6 := Rep.keep (R := RSourceS) (Rep.keep (R := RSourceS) o2_5 hb6) ha6
  have k1_6 : Boxed (w6.alloc (.cells #[.slice A6 (rcS s.data.toList).1.length c6] 24)) w1.heap.size 24 (.slice A1 (rcS s.data.toList).1.length c1) := Boxed.alloc ((hb6.block _ (Boxed.lt k1_5)).trans k1_5) _
  have k2_6 : Boxed (w6.alloc (.cells #[.slice A6 (rcS s.data.toList).1.length c6] 24)) w2.heap.size 24 (.slice A2 (rcS s.data.toList).1.length c2) := Boxed.alloc ((hb6.block _ (Boxed.lt k2_5)).trans k2_5) _
  clear p1 p2
  have p1 := k1_6.cell
  have p2 := k2_6.cell
  have p6 := k6.cell
  have hB6 : Below w.heap.size w w6 := hB5.trans (hb6.mono hB5.size)
  go_wp2_with (fail)
  generalize (w6.alloc (.cells #[.slice A6 (rcS s.data.toList).1.length c6] 24)) = x6 at *
  have hX6 : Below w.heap.size w x6 := hB6.trans (ha6.mono hB6.size)
  refine (eqCert (rcS s.data.toList).1 _ _ _ _ _ _ x6 o6x o1_6 cnt_res).mono ?_; rintro e w7 ⟨rfl, hb7⟩
  have hB7 : Below w.heap.size w w7 := hX6.trans (hb7.mono hX6.size)
  have o2_7 := Rep.keep (R := RSourceS) o2_6 hb7
  have k2_7 : Boxed w7 w2.heap.size 24 (.slice A2 (rcS s.data.toList).1.length c2) := (hb7.block _ (Boxed.lt k2_6)).trans k2_6
  clear p1 p2 p6
  have p2 := k2_7.cell
  go_wp2_with (fail)
  refine (heldCert (rcS s.data.toList).1 _ (1) _ _ w7 o2_7 cnt_res (by omega) (by omega)).mono ?_; rintro e w8 ⟨rfl, hb8⟩
  have hB8 : Below w.heap.size w w8 := hB7.trans (hb8.mono hB7.size)
  go_wp2_with (fail)
  go_ret
  exact ⟨rfl, hB8⟩
end Go.Proofs.YtkpjjohanbiagaaDoor
