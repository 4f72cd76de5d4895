/- The walk of FnExactCertificateText. -/
import Derived.Test.YtiignbomjjfckaaDoorCerJ
import Derived.Test.YtiignbomjjfckaaDoorCerT
import Derived.Deep.RegionHeld3
namespace Go.Proofs.YtiignbomjjfckaaDoor
set_option linter.unusedVariables false
set_option linter.unusedSimpArgs false
open Go.RowKit
set_option maxRecDepth 20000 in
set_option maxHeartbeats 2000000 in
theorem walkFnExactCertificateText (l : List Src) (v : Value) (w : World) (r : RSourceS.raw w v l) (pw : Pow w) (wd : Wrd w) :
    Calls Tryd.prog 3 #[.agg #[v]] w fun e w' => e = .returned (.bool true) ∧ Below w.heap.size w w' := by
  have HR := Lib.hid r
  have HTB := Lib.hid (fun (w' : World) (hb : Below w.heap.size w w') => And.intro (pw.below hb) (wd.below hb))
  obtain ⟨⟨A, c, rfl, _⟩, _⟩ := r
  have B0 : Below w.heap.size w (w.alloc (.cells #[.slice A l.length c] 24)) := Below.alloc (Below.refl _ _) (Nat.le_refl _) _
  have z0 : ((w.alloc (.cells #[.slice A l.length c] 24))).heap.size = w.heap.size + 1 := by simp
  have pb0 : ((w.alloc (.cells #[.slice A l.length c] 24))).cell? ⟨w.heap.size, 0, none⟩ = some (.slice A l.length c) := by simp
  by_cases q : ((RSourceS.wt l : Nat) : Int) ≤ 1048576
  rotate_left
  · have H := szR_neg.2 q
    go_enter Tryd.func3, Tryd.ntmps3
    go_wp2_with (fail)
    refine (szCert l _ _ _ (RSourceS.rawk HR.out B0) (by omega)).mono ?_; rintro e w1 ⟨rfl, hb1⟩
    go_wp2
    go_ret
    exact ⟨rfl, (by repeat (first | exact Below.refl _ _ | refine Below.alloc ?_ (by first | omega | (simp; done) | (simp; omega)) _ | apply Below.drew | apply below_drewN | refine Below.setCell ?_ (by first | omega | (simp; done) | (simp; omega)) _ | refine Below.trans ?_ (Below.mono (by assumption) (by first | omega | (simp; done) | (simp; omega)))))⟩
  · have H := szR_pos.2 q
    have hn : l.length ≤ 1048576 := by have : ((l.length + Src.wts l : Nat) : Int) ≤ 1048576 := q; omega
    have hq : RSourceS.wt l ≤ 1048576 := by omega
    have cnt : RSourceS.cnt l ≤ 8388608 := by show l.length * 3 ≤ _; omega
    go_enter Tryd.func3, Tryd.ntmps3
    go_wp2_with (fail)
    refine (szCert l _ _ _ (RSourceS.rawk HR.out B0) (by omega)).mono ?_; rintro e w1 ⟨rfl, hb1⟩
    have z1 := hb1.size
    rw [z0] at z1
    have B1 : Below w.heap.size w w1 := B0.trans (hb1.mono (by omega))
    have pb1 := (hb1.cell (p := ⟨w.heap.size, 0, none⟩) (by show w.heap.size < _; omega)).trans pb0
    go_wp2_with (fail)
    refine (toCert l _ _ (RSourceS.rawk HR.out B1) hq).mono ?_; rintro e w2 ⟨v2, rfl, o2, hb2⟩
    have z2 := hb2.size
    have B2 : Below w.heap.size w w2 := B1.trans (hb2.mono (by omega))
    have pb2 := (hb2.cell (p := ⟨w.heap.size, 0, none⟩) (by show w.heap.size < _; omega)).trans pb1
    go_wp2_with (fail)
    refine (ctext_s _ l _ _ o2.1 hn).mono ?_; rintro e w3 ⟨rfl, hb3⟩
    have z3 := hb3.size
    have B3 : Below w.heap.size w w3 := B2.trans (hb3.mono (by omega))
    have pb3 := (hb3.cell (p := ⟨w.heap.size, 0, none⟩) (by show w.heap.size < _; omega)).trans pb2
    go_wp2_with (fail)
    refine (toCert l _ _ (RSourceS.rawk HR.out B3) hq).mono ?_; rintro e w4 ⟨v4, rfl, o4, hb4⟩
    have z4 := hb4.size
    have B4 : Below w.heap.size w w4 := B3.trans (hb4.mono (by omega))
    have pb4 := (hb4.cell (p := ⟨w.heap.size, 0, none⟩) (by show w.heap.size < _; omega)).trans pb3
    have O4 := Lib.hid o4
    obtain ⟨A4, c4, rfl, _⟩ := o4.1.shape
    clear o4
    have Bx : Below w4.heap.size w4 (w4.alloc (.cells #[.slice A4 l.length c4] 29)) := Below.alloc (Below.refl _ _) (Nat.le_refl _) _
    have ox := Rep.keep (R := RSourceS) O4.out Bx
    go_wp2_with (fail)
    refine (ctext_i _ l _ _ ox.1 hn (HTB.out _ (B4.trans (Bx.mono (by omega)))).1 (HTB.out _ (B4.trans (Bx.mono (by omega)))).2).mono ?_; rintro e w5 ⟨rfl, hb5⟩
    have z5 : w4.heap.size + 1 ≤ w5.heap.size := by have := hb5.size; simpa using this
    have hb45 : Below w4.heap.size w4 w5 := Bx.trans (hb5.mono (by simp))
    have B5 : Below w.heap.size w w5 := B4.trans (hb45.mono (by omega))
    have pb5 := (hb45.cell (p := ⟨w.heap.size, 0, none⟩) (by show w.heap.size < _; omega)).trans pb4
    have px5 : w5.cell? ⟨w4.heap.size, 0, none⟩ = some (.slice A4 l.length c4) := (hb5.cell (p := ⟨w4.heap.size, 0, none⟩) (by simp)).trans (by simp)
    have O5 := Lib.hid (Rep.keep (R := RSourceS) O4.out hb45)
    clear ox
    go_wp2_with (fail)
    have B5d : Below w.heap.size w w5.drew := B5.drew
    have O5d := Rep.keep (R := RSourceS) O5.out (Below.refl _ _).drew
    go_region_held3 (fun w' => w'.cell? ⟨w.heap.size, 0, none⟩ = some (.slice A l.length c) ∧ w'.cell? ⟨w4.heap.size, 0, none⟩ = some (.slice A4 l.length c4))
      (first | go_keep | exact ⟨(hb6.cell (p := ⟨w.heap.size, 0, none⟩) (by show w.heap.size < w5.heap.size; omega)).trans pb5, (hb6.cell (p := ⟨w4.heap.size, 0, none⟩) (by show w4.heap.size < w5.heap.size; omega)).trans px5⟩ | exact ⟨(hb7.cell (p := ⟨w.heap.size, 0, none⟩) (by have h6 : w5.heap.size ≤ w6.heap.size := hb6.size; show w.heap.size < w6.heap.size; omega)).trans ((hb6.cell (p := ⟨w.heap.size, 0, none⟩) (by show w.heap.size < w5.heap.size; omega)).trans pb5), (hb7.cell (p := ⟨w4.heap.size, 0, none⟩) (by have h6 : w5.heap.size ≤ w6.heap.size := hb6.size; show w4.heap.size < w6.heap.size; omega)).trans ((hb6.cell (p := ⟨w4.heap.size, 0, none⟩) (by show w4.heap.size < w5.heap.size; omega)).trans px5)⟩)
      (first
        | (go_at_call 7; refine (toCert l _ _ (RSourceS.rawk HR.out B5d) hq).mono ?_; rintro e w6 ⟨v6, rfl, o6, hb6⟩)
        | (go_at_call 9; refine (eqCert l _ _ _ _ _ _ _ (Rep.keep (R := RSourceS) O5d hb6) o6 cnt).mono ?_; rintro e w7 ⟨rfl, hb7⟩))
    have z6 : w5.heap.size ≤ w6.heap.size := hb6.size
    have B6 : Below w.heap.size w w6 := B5d.trans (hb6.mono (by show w.heap.size ≤ w5.heap.size; omega))
    go_wp2
    go_ret
    exact ⟨rfl, B6.trans (hb7.mono (by omega))⟩
end Go.Proofs.YtiignbomjjfckaaDoor
