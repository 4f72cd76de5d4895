/- SameDisc, impl and spec: the walks. -/
import Derived.Test.YtignjjkldmninaaSameS
import Derived.Test.YtignjjkldmninaaVDumps
namespace Go.Proofs.Ytignjjkldmninaa
set_option linter.unusedVariables false
open Go.RowKit
def sameD (a b : Dsc) : Bool := sameG a b && sameS a.secs b.secs
set_option maxRecDepth 20000 in
set_option maxHeartbeats 4000000 in
theorem samed_i (Ba Bb : Nat) (a b : Dsc) (va vb : Value) (w : World) (ha : SecOwn Ba w va a.secs) (hb : SecOwn Bb w vb b.secs) (hn : a.secs.length ≤ 8388608) (hm : b.secs.length ≤ 8388608) :
    Calls Try.prog 72 #[dscV a va, dscV b vb] w fun e w' => e = .returned (.bool (sameD a b)) ∧ Below w.heap.size w w' := by
  have HE := Lib.hid (fun (w' : World) (h : Below w.heap.size w w') => equalS_i Ba Bb a.secs b.secs va vb w' (OwnL.below ha h) (OwnL.below hb h) hn hm)
  obtain ⟨A, c, rfl, _⟩ := OwnL.shape ha
  obtain ⟨A', c', rfl, _⟩ := OwnL.shape hb
  have HG := Lib.hid (same_i a b A A' a.secs.length c b.secs.length c' ((w.alloc (.cells #[.int .i64 a.cyl, .int .i64 a.heads, .int .i64 a.per, .int .i64 a.size, .slice A a.secs.length c] 39)).alloc (.cells #[.int .i64 b.cyl, .int .i64 b.heads, .int .i64 b.per, .int .i64 b.size, .slice A' b.secs.length c'] 39)))
  have HB : Below w.heap.size w ((w.alloc (.cells #[.int .i64 a.cyl, .int .i64 a.heads, .int .i64 a.per, .int .i64 a.size, .slice A a.secs.length c] 39)).alloc (.cells #[.int .i64 b.cyl, .int .i64 b.heads, .int .i64 b.per, .int .i64 b.size, .slice A' b.secs.length c'] 39)) := (by repeat (first | exact Below.refl _ _ | refine Below.alloc ?_ (by first | omega | (simp; done) | (simp; omega)) _ | apply Below.drew | apply below_drewN | refine Below.setCell ?_ (by first | omega | (simp; done) | (simp; omega)) _ | refine Below.trans ?_ (Below.mono (by assumption) (by first | omega | (simp; done) | (simp; omega)))))
  unfold sameD
  cases hg : sameG a b
  · rw [hg] at HG
    go_enter Try.func72, Try.ntmps72
    go_wp2_with (fail)
    refine HG.out.mono ?_; rintro e w1 ⟨rfl, hb1⟩
    go_wp2
    go_ret
    exact ⟨rfl, HB.trans (hb1.mono (by simp; omega))⟩
  · rw [hg] at HG
    go_enter Try.func72, Try.ntmps72
    go_wp2_with (fail)
    refine HG.out.mono ?_; rintro e w1 ⟨rfl, hb1⟩
    have B1 : Below w.heap.size w w1 := HB.trans (hb1.mono (by simp; omega))
    have p4 : w1.cell? ⟨w.heap.size, 4, none⟩ = some (.slice A a.secs.length c) := (hb1.cell (p := ⟨w.heap.size, 4, none⟩) (by simp; omega)).trans (by simp)
    have q4 : w1.cell? ⟨w.heap.size + 1, 4, none⟩ = some (.slice A' b.secs.length c') := (hb1.cell (p := ⟨w.heap.size + 1, 4, none⟩) (by simp)).trans (by simp)
    go_wp2_with (fail)
    refine (HE.out w1 B1).mono ?_; rintro e w2 ⟨rfl, hq2⟩
    go_wp2
    go_ret
    exact ⟨rfl, B1.trans (hq2.below _)⟩
set_option maxRecDepth 20000 in
set_option maxHeartbeats 4000000 in
theorem alike_s (ga gb : Nat) (a b : Dsc) (w : World) (ha : ∀ (j : Nat) (u : Value), a.ints[j]? = some u → w.cell? ⟨ga, j, none⟩ = some u) (hb : ∀ (j : Nat) (u : Value), b.ints[j]? = some u → w.cell? ⟨gb, j, none⟩ = some u) :
    Calls Try.prog 126 #[.pointer (some ⟨ga, 0, none⟩), .pointer (some ⟨gb, 0, none⟩)] w fun e w' => e = .returned (.bool (sameG a b)) ∧ Below w.heap.size w w' := by
  have a0 : ∀ x : Wb w, x.1.cell? ⟨ga, 0, none⟩ = some (.int .i64 a.cyl) := fun x => Wb.cell (ha 0 _ rfl) x
  have a1 : ∀ x : Wb w, x.1.cell? ⟨ga, 1, none⟩ = some (.int .i64 a.heads) := fun x => Wb.cell (ha 1 _ rfl) x
  have a2 : ∀ x : Wb w, x.1.cell? ⟨ga, 2, none⟩ = some (.int .i64 a.per) := fun x => Wb.cell (ha 2 _ rfl) x
  have a3 : ∀ x : Wb w, x.1.cell? ⟨ga, 3, none⟩ = some (.int .i64 a.size) := fun x => Wb.cell (ha 3 _ rfl) x
  have b0 : ∀ x : Wb w, x.1.cell? ⟨gb, 0, none⟩ = some (.int .i64 b.cyl) := fun x => Wb.cell (hb 0 _ rfl) x
  have b1 : ∀ x : Wb w, x.1.cell? ⟨gb, 1, none⟩ = some (.int .i64 b.heads) := fun x => Wb.cell (hb 1 _ rfl) x
  have b2 : ∀ x : Wb w, x.1.cell? ⟨gb, 2, none⟩ = some (.int .i64 b.per) := fun x => Wb.cell (hb 2 _ rfl) x
  have b3 : ∀ x : Wb w, x.1.cell? ⟨gb, 3, none⟩ = some (.int .i64 b.size) := fun x => Wb.cell (hb 3 _ rfl) x
  unfold sameG
  clear ha hb
  cases h1 : (a.cyl == b.cyl)
  · go_enter Try.func126, Try.ntmps126
    go_wp2_with (fail)
    refine wp_region_wb (by kernel_rfl) (by kernel_rfl) ?_; (repeat (go_big_quiet_step (fail)))
    refine wpQuiet_nil ?_; intro w1 hw'; obtain ⟨⟨w2, hb1⟩, hw''⟩ := hw'; subst hw''
    go_wp2
    go_ret
    exact ⟨rfl, hb1⟩
  · cases h2 : (a.heads == b.heads)
    · go_enter Try.func126, Try.ntmps126
      go_wp2_with (fail)
      refine wp_region_wb (by kernel_rfl) (by kernel_rfl) ?_; (repeat (go_big_quiet_step (fail)))
      refine wpQuiet_nil ?_; intro w1 hw'; obtain ⟨⟨w2, hb1⟩, hw''⟩ := hw'; subst hw''
      go_wp2
      go_ret
      exact ⟨rfl, hb1⟩
    · cases h3 : (a.per == b.per)
      · go_enter Try.func126, Try.ntmps126
        go_wp2_with (fail)
        refine wp_region_wb (by kernel_rfl) (by kernel_rfl) ?_; (repeat (go_big_quiet_step (fail)))
        refine wpQuiet_nil ?_; intro w1 hw'; obtain ⟨⟨w2, hb1⟩, hw''⟩ := hw'; subst hw''
        go_wp2
        go_ret
        exact ⟨rfl, hb1⟩
      · cases h4 : (a.size == b.size)
        · go_enter Try.func126, Try.ntmps126
          go_wp2_with (fail)
          refine wp_region_wb (by kernel_rfl) (by kernel_rfl) ?_; (repeat (go_big_quiet_step (fail)))
          refine wpQuiet_nil ?_; intro w1 hw'; obtain ⟨⟨w2, hb1⟩, hw''⟩ := hw'; subst hw''
          go_wp2
          go_ret
          exact ⟨rfl, hb1⟩
        · go_enter Try.func126, Try.ntmps126
          go_wp2_with (fail)
          refine wp_region_wb (by kernel_rfl) (by kernel_rfl) ?_; (repeat (go_big_quiet_step (fail)))
          refine wpQuiet_nil ?_; intro w1 hw'; obtain ⟨⟨w2, hb1⟩, hw''⟩ := hw'; subst hw''
          go_wp2
          go_ret
          exact ⟨rfl, hb1⟩
end Go.Proofs.Ytignjjkldmninaa
