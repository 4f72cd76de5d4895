/- slices.SortFunc over Sources: the closure's walk, the contract. -/
import Derived.Test.YtfcdienphillnaaGreatLr27
import Derived.Test.YtfcdienphillnaaGreatLr32
import Derived.Test.YtfcdienphillnaaGreatLr38
namespace Go.Proofs.YtfcdienphillnaaGreat
set_option linter.unusedVariables false
set_option linter.unusedSimpArgs false
open Go.RowKit Go.Sort
set_option maxRecDepth 20000 in
set_option maxHeartbeats 1000000 in
theorem cmp_i (x y : SrcS) (w : World) : Calls Tryz.prog 107 #[.agg (encS x).toArray, .agg (encS y).toArray] w fun e w' => e = .returned (.int .i64 (cmpS x y)) ∧ ∃ q os', w' = grow (w.drewN q) os' := by
  obtain ⟨⟨k1, s1, d1⟩, hx0, hx1⟩ := x
  obtain ⟨⟨k2, s2, d2⟩, hy0, hy1⟩ := y
  simp only at hx0 hx1 hy0 hy1
  have hcm : Hid (cmpS ⟨⟨k1, s1, d1⟩, hx0, hx1⟩ ⟨⟨k2, s2, d2⟩, hy0, hy1⟩ = s1 - s2) := Lib.hid rfl
  generalize cmpS ⟨⟨k1, s1, d1⟩, hx0, hx1⟩ ⟨⟨k2, s2, d2⟩, hy0, hy1⟩ = R at *
  show Calls Tryz.prog 107 #[.agg #[.int .i64 k1, .int .i64 s1, .int .i64 d1], .agg #[.int .i64 k2, .int .i64 s2, .int .i64 d2]] w _
  go_enter Tryz.func107, Tryz.ntmps107
  have HX : Hid (∃ q os', ((w.alloc (.cells #[.int .i64 k1, .int .i64 s1, .int .i64 d1] 83)).alloc (.cells #[.int .i64 k2, .int .i64 s2, .int .i64 d2] 83)) = grow (w.drewN q) os') := Lib.hid ⟨0, #[.cells #[.int .i64 k1, .int .i64 s1, .int .i64 d1] 83, .cells #[.int .i64 k2, .int .i64 s2, .int .i64 d2] 83], by rw [alloc_eq_grow, alloc_eq_grow, grow_grow]; rfl⟩
  go_wp2
  go_ret
  exact ⟨ret_int (by rw [hcm.out]), HX.out⟩
theorem cmp_lays (g size : Nat) (w : World) : Go.Proofs.CmpLays Tryz.prog 107 #[] encS 3 cmpS g 0 size w :=
  fun _ _ _ _ x y => cmp_i x y _
theorem sort_i (B g c : Nat) (d : Array SrcS) (w : World) (h : OwnL Src.cells 3 83 B w (.slice (some ⟨g, 0, none⟩) d.size c) (srL d)) (hr : (srL d).Pairwise fun a b => a.sector ≠ b.sector) (hn : d.size ≤ 1048576) :
    Calls Tryz.prog 106 #[.slice (some ⟨g, 0, none⟩) d.size c, .func (.func 107) #[] #[]] w fun e w' => e = .returned (.tuple #[]) ∧ (∃ d' : Array SrcS, d'.size = d.size ∧ OwnL Src.cells 3 83 B w' (.slice (some ⟨g, 0, none⟩) d.size c) (srL d') ∧ (srL d').Perm (srL d) ∧ SrtL (srL d')) ∧ Below g w w' := by
  have hgB : B ≤ g ∧ g < w.heap.size := World.ownsRow.lt h g rfl
  have eg : ∀ args w, (callFunc 107 args).run Tryz.prog w = .ok (.enter 107 args) w := enters_of Tryz.func107 (by kernel_rfl) rfl
  have hcon := Go.Proofs.AnyQ.slices_SortFunc Tryz.sortR 3 Tryz.isAgg83 Tryz.sizeOf83 encS (fun _ => rfl) (fun x => by simp [encS, Src.cells, Value.oneCell']) cmpS swoS 107 #[] g 0 c d w eg (cmp_lays g d.size w) (holds_srcs h) hgB.2 (by omega)
  refine hcon.mono ?_
  rintro e w' ⟨rfl, d', n, os, hp, hs, rfl⟩
  obtain ⟨r1, r2⟩ := sorted_srcs hp hs hr
  exact ⟨rfl, ⟨d', hp.1, own_sortedS h hp.1, r1, r2⟩, below_sortedS hgB.2⟩
theorem sort_none (c : Nat) (A : Option Addr) (w : World) : Calls Tryz.prog 106 #[.slice A 0 c, .func (.func 107) #[] #[]] w fun e w' => e = .returned (.tuple #[]) ∧ w' = w :=
  Go.Proofs.AnyF.slices_SortFunc_none Tryz.sortR A c _ w
theorem sort_any (B K : Nat) (v : Value) (X Y : List Src) (w : World) (h : OwnL Src.cells 3 83 K w v X) (hn : X.Pairwise fun a b => a.sector ≠ b.sector) (hs : ∀ s ∈ X, 0 ≤ s.sector ∧ s.sector ≤ 1048576) (hl : X.length ≤ 1048576) (hp : X.Perm Y) (hy : SrtL Y) :
    Calls Tryz.prog 106 #[v, .func (.func 107) #[] #[]] w fun r w' => r = .returned (.tuple #[]) ∧ OwnL Src.cells 3 83 K w' v Y ∧ Below K w w' := by
  obtain ⟨A, c, rfl, hX⟩ := OwnL.shape h
  rcases hX with rfl | ⟨g, rfl, hg, hgw⟩
  · refine (sort_none c A w).mono ?_; rintro r w' ⟨rfl, rfl⟩
    rw [List.nil_perm.1 hp]
    exact ⟨rfl, h, Below.refl _ _⟩
  · obtain ⟨d, rfl⟩ := as_srcs hs
    have hc := sort_i K g c d w (by rw [srL_len] at h; exact h) hn (by rw [srL_len] at hl; exact hl)
    rw [srL_len]
    refine hc.mono ?_; rintro r w' ⟨rfl, ⟨d', _, ho, hp', hs'⟩, hb⟩
    have he := srt_eq hs' hy (hp'.trans hp)
    rw [he] at ho
    exact ⟨rfl, ho, hb.mono hg⟩
end Go.Proofs.YtfcdienphillnaaGreat
