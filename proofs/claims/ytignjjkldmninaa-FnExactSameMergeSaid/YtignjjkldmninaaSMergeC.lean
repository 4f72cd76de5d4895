/- SameMerge, both sides. -/
import Derived.Test.YtignjjkldmninaaSMerge
namespace Go.Proofs.Ytignjjkldmninaa
set_option linter.unusedVariables false
open Go.RowKit
def sameM (a b : Mrg) : Bool := (sameD a.d b.d && sameI a.fr b.fr) && sameI a.ag b.ag
structure MrgSmall (m : Mrg) : Prop where
  d : m.d.secs.length ≤ 8388608
  fr : m.fr.length ≤ 8388608
  ag : m.ag.length ≤ 8388608
set_option maxRecDepth 20000 in
set_option maxHeartbeats 4000000 in
theorem mrg_i (m n : Mrg) (Ba Bb : Nat) (w : World) {bv fv av bv' fv' av' : Value} (h : MrgOwn Ba w m bv fv av) (h' : MrgOwn Bb w n bv' fv' av') (hm : MrgSmall m) (hn : MrgSmall n) :
    Calls Try.prog 24 #[mrgV m bv fv av, mrgV n bv' fv' av'] w fun e w' => e = .returned (.bool (sameM m n)) ∧ Below w.heap.size w w' := by
  have H1 := Lib.hid h
  have H2 := Lib.hid h'
  obtain ⟨A, c, rfl, _⟩ := OwnL.shape h.d
  obtain ⟨A1, c1, rfl, _⟩ := OwnL.shape h.fr
  obtain ⟨A2, c2, rfl, _⟩ := OwnL.shape h.ag
  obtain ⟨A', c', rfl, _⟩ := OwnL.shape h'.d
  obtain ⟨A1', c1', rfl, _⟩ := OwnL.shape h'.fr
  obtain ⟨A2', c2', rfl, _⟩ := OwnL.shape h'.ag
  have HB : Below w.heap.size w ((w.alloc (.cells #[.int .i64 m.d.cyl, .int .i64 m.d.heads, .int .i64 m.d.per, .int .i64 m.d.size, .slice A m.d.secs.length c, .slice A1 m.fr.length c1, .slice A2 m.ag.length c2] 41)).alloc (.cells #[.int .i64 n.d.cyl, .int .i64 n.d.heads, .int .i64 n.d.per, .int .i64 n.d.size, .slice A' n.d.secs.length c', .slice A1' n.fr.length c1', .slice A2' n.ag.length c2'] 41)) := (by repeat (first | exact Below.refl _ _ | refine Below.alloc ?_ (by first | omega | (simp; done) | (simp; omega)) _ | apply Below.drew | apply below_drewN | refine Below.setCell ?_ (by first | omega | (simp; done) | (simp; omega)) _ | refine Below.trans ?_ (Below.mono (by assumption) (by first | omega | (simp; done) | (simp; omega)))))
  have HD := Lib.hid (samed_i Ba Bb m.d n.d _ _ ((w.alloc (.cells #[.int .i64 m.d.cyl, .int .i64 m.d.heads, .int .i64 m.d.per, .int .i64 m.d.size, .slice A m.d.secs.length c, .slice A1 m.fr.length c1, .slice A2 m.ag.length c2] 41)).alloc (.cells #[.int .i64 n.d.cyl, .int .i64 n.d.heads, .int .i64 n.d.per, .int .i64 n.d.size, .slice A' n.d.secs.length c', .slice A1' n.fr.length c1', .slice A2' n.ag.length c2'] 41)) (H1.out.below HB).d (H2.out.below HB).d hm.d hn.d)
  have HF := Lib.hid (fun (w' : World) (hb : Below w.heap.size w w') => equal_i Ba Bb m.fr n.fr _ _ w' (H1.out.below hb).fr (H2.out.below hb).fr hm.fr hn.fr)
  have HA := Lib.hid (fun (w' : World) (hb : Below w.heap.size w w') => equal_i Ba Bb m.ag n.ag _ _ w' (H1.out.below hb).ag (H2.out.below hb).ag hm.ag hn.ag)
  clear h h' hm hn
  unfold sameM
  generalize sameD m.d n.d = x at *
  generalize sameI m.fr n.fr = y at *
  generalize sameI m.ag n.ag = z at *
  have P5 : ∀ w1, Below (((w.alloc (.cells #[.int .i64 m.d.cyl, .int .i64 m.d.heads, .int .i64 m.d.per, .int .i64 m.d.size, .slice A m.d.secs.length c, .slice A1 m.fr.length c1, .slice A2 m.ag.length c2] 41)).alloc (.cells #[.int .i64 n.d.cyl, .int .i64 n.d.heads, .int .i64 n.d.per, .int .i64 n.d.size, .slice A' n.d.secs.length c', .slice A1' n.fr.length c1', .slice A2' n.ag.length c2'] 41))).heap.size ((w.alloc (.cells #[.int .i64 m.d.cyl, .int .i64 m.d.heads, .int .i64 m.d.per, .int .i64 m.d.size, .slice A m.d.secs.length c, .slice A1 m.fr.length c1, .slice A2 m.ag.length c2] 41)).alloc (.cells #[.int .i64 n.d.cyl, .int .i64 n.d.heads, .int .i64 n.d.per, .int .i64 n.d.size, .slice A' n.d.secs.length c', .slice A1' n.fr.length c1', .slice A2' n.ag.length c2'] 41)) w1 → w1.cell? ⟨w.heap.size, 5, none⟩ = some (.slice A1 m.fr.length c1) ∧ w1.cell? ⟨w.heap.size, 6, none⟩ = some (.slice A2 m.ag.length c2) ∧ w1.cell? ⟨w.heap.size + 1, 5, none⟩ = some (.slice A1' n.fr.length c1') ∧ w1.cell? ⟨w.heap.size + 1, 6, none⟩ = some (.slice A2' n.ag.length c2') := fun w1 hb1 =>
    ⟨(hb1.cell (p := ⟨w.heap.size, 5, none⟩) (by simp; omega)).trans (by simp [go_sem]), (hb1.cell (p := ⟨w.heap.size, 6, none⟩) (by simp; omega)).trans (by simp [go_sem]), (hb1.cell (p := ⟨w.heap.size + 1, 5, none⟩) (by simp)).trans (by simp [go_sem]), (hb1.cell (p := ⟨w.heap.size + 1, 6, none⟩) (by simp)).trans (by simp [go_sem])⟩
  have HP := Lib.hid P5
  clear P5
  cases x
  · go_enter Try.func24, Try.ntmps24
    go_wp2_with (fail)
    refine HD.out.mono ?_; rintro e w1 ⟨rfl, hb1⟩
    go_wp2
    go_ret
    exact ⟨rfl, HB.trans (hb1.mono (by simp; omega))⟩
  · cases y
    · go_enter Try.func24, Try.ntmps24
      go_wp2_with (fail)
      refine HD.out.mono ?_; rintro e w1 ⟨rfl, hb1⟩
      have B1 : Below w.heap.size w w1 := HB.trans (hb1.mono (by simp; omega))
      obtain ⟨p5, p6, q5, q6⟩ := HP.out w1 hb1
      go_wp2_with (fail)
      refine (HF.out w1 B1).mono ?_; rintro e w2 ⟨rfl, hq2⟩
      have B2 : Below w.heap.size w w2 := B1.trans (hq2.below _)
      go_wp2
      go_ret
      exact ⟨rfl, B2⟩
    · go_enter Try.func24, Try.ntmps24
      go_wp2_with (fail)
      refine HD.out.mono ?_; rintro e w1 ⟨rfl, hb1⟩
      have B1 : Below w.heap.size w w1 := HB.trans (hb1.mono (by simp; omega))
      obtain ⟨p5, p6, q5, q6⟩ := HP.out w1 hb1
      clear hb1
      go_wp2_with (fail)
      refine (HF.out w1 B1).mono ?_; rintro e w2 ⟨rfl, hq2⟩
      have B2 : Below w.heap.size w w2 := B1.trans (hq2.below _)
      have p6' := (hq2.cell ⟨w.heap.size, 6, none⟩).trans p6
      have q6' := (hq2.cell ⟨w.heap.size + 1, 6, none⟩).trans q6
      clear p5 q5 p6 q6 hq2
      go_wp2_with (fail)
      refine (HA.out w2 B2).mono ?_; rintro e w3 ⟨rfl, hq3⟩
      go_wp2
      go_ret
      exact ⟨rfl, B2.trans (hq3.below _)⟩
set_option maxRecDepth 20000 in
set_option maxHeartbeats 4000000 in
theorem mrg_s (m n : Mrg) (Ba Bb : Nat) (w : World) {bv fv av bv' fv' av' : Value} (h : MrgOwn Ba w m bv fv av) (h' : MrgOwn Bb w n bv' fv' av') (hm : MrgSmall m) (hn : MrgSmall n) :
    Calls Try.prog 22 #[mrgV m bv fv av, mrgV n bv' fv' av'] w fun e w' => e = .returned (.bool (sameM m n)) ∧ Below w.heap.size w w' := by
  have H1 := Lib.hid h
  have H2 := Lib.hid h'
  obtain ⟨A, c, rfl, _⟩ := OwnL.shape h.d
  obtain ⟨A1, c1, rfl, _⟩ := OwnL.shape h.fr
  obtain ⟨A2, c2, rfl, _⟩ := OwnL.shape h.ag
  obtain ⟨A', c', rfl, _⟩ := OwnL.shape h'.d
  obtain ⟨A1', c1', rfl, _⟩ := OwnL.shape h'.fr
  obtain ⟨A2', c2', rfl, _⟩ := OwnL.shape h'.ag
  have HB : Below w.heap.size w ((w.alloc (.cells #[.int .i64 m.d.cyl, .int .i64 m.d.heads, .int .i64 m.d.per, .int .i64 m.d.size, .slice A m.d.secs.length c, .slice A1 m.fr.length c1, .slice A2 m.ag.length c2] 41)).alloc (.cells #[.int .i64 n.d.cyl, .int .i64 n.d.heads, .int .i64 n.d.per, .int .i64 n.d.size, .slice A' n.d.secs.length c', .slice A1' n.fr.length c1', .slice A2' n.ag.length c2'] 41)) := (by repeat (first | exact Below.refl _ _ | refine Below.alloc ?_ (by first | omega | (simp; done) | (simp; omega)) _ | apply Below.drew | apply below_drewN | refine Below.setCell ?_ (by first | omega | (simp; done) | (simp; omega)) _ | refine Below.trans ?_ (Below.mono (by assumption) (by first | omega | (simp; done) | (simp; omega)))))
  have HD := Lib.hid (samed_s Ba Bb m.d n.d _ _ ((w.alloc (.cells #[.int .i64 m.d.cyl, .int .i64 m.d.heads, .int .i64 m.d.per, .int .i64 m.d.size, .slice A m.d.secs.length c, .slice A1 m.fr.length c1, .slice A2 m.ag.length c2] 41)).alloc (.cells #[.int .i64 n.d.cyl, .int .i64 n.d.heads, .int .i64 n.d.per, .int .i64 n.d.size, .slice A' n.d.secs.length c', .slice A1' n.fr.length c1', .slice A2' n.ag.length c2'] 41)) (H1.out.below HB).d (H2.out.below HB).d hm.d hn.d)
  have HF := Lib.hid (fun (w' : World) (hb : Below w.heap.size w w') => same_s Ba Bb m.fr n.fr _ _ w' (H1.out.below hb).fr (H2.out.below hb).fr hm.fr hn.fr)
  have HA := Lib.hid (fun (w' : World) (hb : Below w.heap.size w w') => same_s Ba Bb m.ag n.ag _ _ w' (H1.out.below hb).ag (H2.out.below hb).ag hm.ag hn.ag)
  clear h h' hm hn
  unfold sameM
  generalize sameD m.d n.d = x at *
  generalize sameI m.fr n.fr = y at *
  generalize sameI m.ag n.ag = z at *
  have P5 : ∀ w1, Below (((w.alloc (.cells #[.int .i64 m.d.cyl, .int .i64 m.d.heads, .int .i64 m.d.per, .int .i64 m.d.size, .slice A m.d.secs.length c, .slice A1 m.fr.length c1, .slice A2 m.ag.length c2] 41)).alloc (.cells #[.int .i64 n.d.cyl, .int .i64 n.d.heads, .int .i64 n.d.per, .int .i64 n.d.size, .slice A' n.d.secs.length c', .slice A1' n.fr.length c1', .slice A2' n.ag.length c2'] 41))).heap.size ((w.alloc (.cells #[.int .i64 m.d.cyl, .int .i64 m.d.heads, .int .i64 m.d.per, .int .i64 m.d.size, .slice A m.d.secs.length c, .slice A1 m.fr.length c1, .slice A2 m.ag.length c2] 41)).alloc (.cells #[.int .i64 n.d.cyl, .int .i64 n.d.heads, .int .i64 n.d.per, .int .i64 n.d.size, .slice A' n.d.secs.length c', .slice A1' n.fr.length c1', .slice A2' n.ag.length c2'] 41)) w1 → w1.cell? ⟨w.heap.size, 5, none⟩ = some (.slice A1 m.fr.length c1) ∧ w1.cell? ⟨w.heap.size, 6, none⟩ = some (.slice A2 m.ag.length c2) ∧ w1.cell? ⟨w.heap.size + 1, 5, none⟩ = some (.slice A1' n.fr.length c1') ∧ w1.cell? ⟨w.heap.size + 1, 6, none⟩ = some (.slice A2' n.ag.length c2') := fun w1 hb1 =>
    ⟨(hb1.cell (p := ⟨w.heap.size, 5, none⟩) (by simp; omega)).trans (by simp [go_sem]), (hb1.cell (p := ⟨w.heap.size, 6, none⟩) (by simp; omega)).trans (by simp [go_sem]), (hb1.cell (p := ⟨w.heap.size + 1, 5, none⟩) (by simp)).trans (by simp [go_sem]), (hb1.cell (p := ⟨w.heap.size + 1, 6, none⟩) (by simp)).trans (by simp [go_sem])⟩
  have HP := Lib.hid P5
  clear P5
  cases x
  · go_enter Try.func22, Try.ntmps22
    go_wp2_with (fail)
    refine HD.out.mono ?_; rintro e w1 ⟨rfl, hb1⟩
    go_wp2
    go_ret
    exact ⟨rfl, HB.trans (hb1.mono (by simp; omega))⟩
  · cases y
    · go_enter Try.func22, Try.ntmps22
      go_wp2_with (fail)
      refine HD.out.mono ?_; rintro e w1 ⟨rfl, hb1⟩
      have B1 : Below w.heap.size w w1 := HB.trans (hb1.mono (by simp; omega))
      obtain ⟨p5, p6, q5, q6⟩ := HP.out w1 hb1
      go_wp2_with (fail)
      refine (HF.out w1 B1).mono ?_; rintro e w2 ⟨rfl, hq2⟩
      have B2 : Below w.heap.size w w2 := B1.trans (hq2.below _)
      go_wp2
      go_ret
      exact ⟨rfl, B2⟩
    · go_enter Try.func22, Try.ntmps22
      go_wp2_with (fail)
      refine HD.out.mono ?_; rintro e w1 ⟨rfl, hb1⟩
      have B1 : Below w.heap.size w w1 := HB.trans (hb1.mono (by simp; omega))
      obtain ⟨p5, p6, q5, q6⟩ := HP.out w1 hb1
      clear hb1
      go_wp2_with (fail)
      refine (HF.out w1 B1).mono ?_; rintro e w2 ⟨rfl, hq2⟩
      have B2 : Below w.heap.size w w2 := B1.trans (hq2.below _)
      have p6' := (hq2.cell ⟨w.heap.size, 6, none⟩).trans p6
      have q6' := (hq2.cell ⟨w.heap.size + 1, 6, none⟩).trans q6
      clear p5 q5 p6 q6 hq2
      go_wp2_with (fail)
      refine (HA.out w2 B2).mono ?_; rintro e w3 ⟨rfl, hq3⟩
      go_wp2
      go_ret
      exact ⟨rfl, B2.trans (hq3.below _)⟩
end Go.Proofs.Ytignjjkldmninaa
