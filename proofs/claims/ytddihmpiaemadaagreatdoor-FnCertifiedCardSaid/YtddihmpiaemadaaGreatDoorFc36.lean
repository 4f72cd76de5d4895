/- Evidence drawn from a code: the walk of DrawRepairDisc. The first source of a sector, the reference: the walk. The lists of a track: what the walk of the reference keeps. The answers of a repair, and how two boxes are copied into the results' boxes. Layings of the library over this program (printed by the kit, over the functions of this seat). slices.SortFunc over Sources: the closure's walk, the contract. -/
import Derived.Test.YtddihmpiaemadaaGreatDoorFc35
import Derived.Test.YtddihmpiaemadaaGreatDoorFc25
import Derived.Test.YtddihmpiaemadaaGreatDoorFc21
import Derived.Test.YtddihmpiaemadaaGreatDoorFc30
import Derived.Test.YtddihmpiaemadaaGreatDoorFc04
import Derived.Test.YtddihmpiaemadaaGreatDoorFc18
import Derived.Test.YtddihmpiaemadaaGreatDoorProg
import Derived.Test.YtddihmpiaemadaaGreatDoorFc26
import Derived.Shelf.SlSortCmp.NoneTotal
import Derived.Shelf.SlGeneric
import Derived.Shelf.Lay
namespace Go.Proofs.YtddihmpiaemadaaGreatDoor
set_option linter.unusedVariables false
set_option linter.unusedSimpArgs false
open Go.RowKit
set_option maxHeartbeats 1000000 in
theorem from_s (A : Option Addr) (n c : Nat) (w : World) : Calls Tryz.prog 15 #[.slice A n c] w fun e w' => e = .returned (.pointer (some ⟨w.heap.size, 0, none⟩)) ∧ w' = w.alloc (.cells #[.slice A n c, .int .i64 0, .int .u64 0] 86) := by
  go_enter Tryz.func15, Tryz.ntmps15
  go_wp2
  go_ret
  exact ⟨rfl, rfl⟩
set_option maxRecDepth 20000 in
set_option maxHeartbeats 4000000 in
theorem drep_s (A : Option Addr) (n c : Nat) (w : World) (h : BytesIn w A n) (hn : n ≤ 1048576) :
    Calls Tryz.prog 5 #[.slice A n c] w fun e w' => ∃ (E : Evd) (va vb vc vd : Value), e = .returned (evV va vb vc vd) ∧ EvOwn w.heap.size w' E va vb vc vd ∧ EvSmall E ∧ Below w.heap.size w w' := by
  have z0 : ((w.alloc (.cells #[.slice none 0 0, .slice none 0 0, .slice none 0 0, .slice none 0 0] 28))).heap.size = w.heap.size + 1 := by simp
  have z1 : (((w.alloc (.cells #[.slice none 0 0, .slice none 0 0, .slice none 0 0, .slice none 0 0] 28)).alloc (.cells #[.slice A n c, .int .i64 0, .int .u64 0] 86))).heap.size = w.heap.size + 2 := by simp
  have h0 : BytesIn (w.alloc (.cells #[.slice none 0 0, .slice none 0 0, .slice none 0 0, .slice none 0 0] 28)) A n := by
    rcases h with h | ⟨b, o, h1, h2, h3⟩
    · exact .inl h
    · exact .inr ⟨b, o, h1, by omega, fun j hj => by
        obtain ⟨x, hx, hc⟩ := h3 j hj
        exact ⟨x, hx, (World.cell?_alloc_old _ _ _ (Nat.ne_of_lt h2)).trans hc⟩⟩
  have hD : DrAt ((w.alloc (.cells #[.slice none 0 0, .slice none 0 0, .slice none 0 0, .slice none 0 0] 28)).alloc (.cells #[.slice A n c, .int .i64 0, .int .u64 0] 86)) ((w.alloc (.cells #[.slice none 0 0, .slice none 0 0, .slice none 0 0, .slice none 0 0] 28))).heap.size A n c 0 := by
    generalize (w.alloc (.cells #[.slice none 0 0, .slice none 0 0, .slice none 0 0, .slice none 0 0] 28)) = W0 at *
    refine ⟨by simp, by simp, by simp, ⟨0, by simp⟩, by simp, ?_⟩
    rcases h0 with h | ⟨b, o, h1, h2, h3⟩
    · exact .inl h
    · exact .inr ⟨b, o, h1, h2, fun j hj => by
        obtain ⟨x, hx, hc⟩ := h3 j hj
        exact ⟨x, hx, (World.cell?_alloc_old _ _ _ (Nat.ne_of_lt h2)).trans hc⟩⟩
  have HG := bent26 ((w.alloc (.cells #[.slice none 0 0, .slice none 0 0, .slice none 0 0, .slice none 0 0] 28))).heap.size A n c 0 12 _ hD hn (by omega) (by omega)
  have B1 : Below w.heap.size w ((w.alloc (.cells #[.slice none 0 0, .slice none 0 0, .slice none 0 0, .slice none 0 0] 28)).alloc (.cells #[.slice A n c, .int .i64 0, .int .u64 0] 86)) := Below.alloc (Below.alloc (Below.refl _ _) (Nat.le_refl _) _) (by omega) _
  have R0 : Row (w.alloc (.cells #[.slice none 0 0, .slice none 0 0, .slice none 0 0, .slice none 0 0] 28)) w.heap.size [.slice none 0 0, .slice none 0 0, .slice none 0 0, .slice none 0 0] := Row.alloc w _ _
  have F0 : ∀ o, ((w.alloc (.cells #[.slice none 0 0, .slice none 0 0, .slice none 0 0, .slice none 0 0] 28))).frozen? ⟨w.heap.size, o, none⟩ = false := frozen_alloc w _ _
  have b01 : Below ((w.alloc (.cells #[.slice none 0 0, .slice none 0 0, .slice none 0 0, .slice none 0 0] 28))).heap.size (w.alloc (.cells #[.slice none 0 0, .slice none 0 0, .slice none 0 0, .slice none 0 0] 28)) ((w.alloc (.cells #[.slice none 0 0, .slice none 0 0, .slice none 0 0, .slice none 0 0] 28)).alloc (.cells #[.slice A n c, .int .i64 0, .int .u64 0] 86)) := Below.alloc (Below.refl _ _) (Nat.le_refl _) _
  have HR1 := Lib.hid (R0.below b01 (by omega))
  have HF1 := Lib.hid (frozen_below F0 b01 (by omega))
  have HB1 := Lib.hid B1
  rw [z0] at HG
  have e12 : ((12 : Nat) : Int) = 12 := rfl
  rw [e12] at HG
  replace HG := Lib.hid HG
  clear e12 h h0 hD B1 R0 F0 b01
  go_enter Tryz.func5, Tryz.ntmps5
  go_wp2_with (fail)
  refine (from_s A n c _).mono ?_; rintro e wq ⟨rfl, hwq⟩
  rw [← hwq] at HG HR1 HF1 HB1 z1
  clear hwq
  go_wp2_with (fail)
  generalize wq = w1 at *

  refine HG.out.mono ?_; rintro e w2 ⟨va, vb, vc, vd, pl, cr, ps, qs, a', rfl, hev, hM, ha', D2, C2⟩
  obtain ⟨A1, n1, k1, rfl⟩ := own_slice hev.ds.o
  obtain ⟨A2, n2, k2, rfl⟩ := own_slice hev.cr
  obtain ⟨A3, n3, k3, rfl⟩ := own_slice hev.p
  obtain ⟨A4, n4, k4, rfl⟩ := own_slice hev.q
  have R2 := HR1.out.chgIn C2 (by omega) (.inl (by omega))
  have F2 := frozen_chg HF1.out C2 (by omega) (.inl (by omega))
  have y0 := R2 0 _ rfl
  have y1 := R2 1 _ rfl
  have y2 := R2 2 _ rfl
  have y3 := R2 3 _ rfl
  have f0 := F2 0
  have f1 := F2 1
  have f2 := F2 2
  have f3 := F2 3
  have R9 : Row ((((w2.setCell ⟨w.heap.size, 0, none⟩ (.slice A1 n1 k1)).setCell ⟨w.heap.size, 1, none⟩ (.slice A2 n2 k2)).setCell ⟨w.heap.size, 2, none⟩ (.slice A3 n3 k3)).setCell ⟨w.heap.size, 3, none⟩ (.slice A4 n4 k4)) w.heap.size [.slice A1 n1 k1, .slice A2 n2 k2, .slice A3 n3 k3, .slice A4 n4 k4] := (((R2.set (o := 0) (.slice A1 n1 k1) (by simp)).set (o := 1) (.slice A2 n2 k2) (by simp)).set (o := 2) (.slice A3 n3 k3) (by simp)).set (o := 3) (.slice A4 n4 k4) (by simp)
  have v0 := R9 0 _ rfl
  have v1 := R9 1 _ rfl
  have v2 := R9 2 _ rfl
  have v3 := R9 3 _ rfl
  have hb : w.heap.size < w1.heap.size := by omega
  have HO : Hid (EvX w.heap.size ((((w2.setCell ⟨w.heap.size, 0, none⟩ (.slice A1 n1 k1)).setCell ⟨w.heap.size, 1, none⟩ (.slice A2 n2 k2)).setCell ⟨w.heap.size, 2, none⟩ (.slice A3 n3 k3)).setCell ⟨w.heap.size, 3, none⟩ (.slice A4 n4 k4)) (.slice A1 n1 k1) (.slice A2 n2 k2) (.slice A3 n3 k3) (.slice A4 n4 k4) pl cr ps qs) := Lib.hid ((((((hev.far hb).far hb).far hb).far hb)).base (by omega))
  have B2 : Below w.heap.size w w2 := ⟨C2.os.trans HB1.out.os, C2.tape.trans HB1.out.tape, C2.output.trans HB1.out.output, Nat.le_trans HB1.out.size C2.size, fun k hk => (C2.block k (by omega) (by omega)).trans (HB1.out.block k hk)⟩
  have HB9 : Hid (Below w.heap.size w ((((w2.setCell ⟨w.heap.size, 0, none⟩ (.slice A1 n1 k1)).setCell ⟨w.heap.size, 1, none⟩ (.slice A2 n2 k2)).setCell ⟨w.heap.size, 2, none⟩ (.slice A3 n3 k3)).setCell ⟨w.heap.size, 3, none⟩ (.slice A4 n4 k4))) := Lib.hid (Below.setCell (Below.setCell (Below.setCell (Below.setCell B2 (Nat.le_refl _) _) (Nat.le_refl _) _) (Nat.le_refl _) _) (Nat.le_refl _) _)
  clear R2 F2 R9 hev C2 D2 B2 HR1 HF1 HB1 HG
  go_wp2_with (fail)
  generalize ((((w2.setCell ⟨w.heap.size, 0, none⟩ (.slice A1 n1 k1)).setCell ⟨w.heap.size, 1, none⟩ (.slice A2 n2 k2)).setCell ⟨w.heap.size, 2, none⟩ (.slice A3 n3 k3)).setCell ⟨w.heap.size, 3, none⟩ (.slice A4 n4 k4)) = W9 at *
  exact bodyPost_ret (v := .agg #[.slice A1 n1 k1, .slice A2 n2 k2, .slice A3 n3 k3, .slice A4 n4 k4]) (by simp [results, Tryz.results5, go_sem, v0, v1, v2, v3] <;> rfl) rfl ⟨_, _, _, _, _, rfl, HO.out.own, hM.small, HB9.out⟩
end Go.Proofs.YtddihmpiaemadaaGreatDoor
namespace Go.Proofs.YtddihmpiaemadaaGreatDoor
set_option linter.unusedVariables false
set_option linter.unusedSimpArgs false
open Go.RowKit
end Go.Proofs.YtddihmpiaemadaaGreatDoor
namespace Go.Proofs.YtddihmpiaemadaaGreatDoor
set_option linter.unusedVariables false
set_option linter.unusedSimpArgs false
open Go.RowKit
theorem cell_dr (W : World) (a : Addr) : W.drew.cell? a = W.cell? a := rfl
theorem cell_oth {w : World} {k g o o' : Nat} {u : Value} (h : k ≠ g) : (w.setCell ⟨g, o', none⟩ u).cell? ⟨k, o, none⟩ = w.cell? ⟨k, o, none⟩ := World.cell?_setCell_other _ _ _ _ (fun e => by injection e with e1; exact h e1.symm)
theorem tk_next (t P : Nat) : t * P + P = (t + 1) * P := by rw [Nat.add_mul, Nat.one_mul]
/-- the lists of the lost sectors and of the sources of a track -/
structure RpIn (n1 : Nat) (wr : World) (vl vf : Value) (L : List Int) (F : List Src) : Prop where
  l : Int64L n1 wr vl L
  f : OwnL Src.cells 3 49 n1 wr vf F
  sep : ∀ k, vl.ownBlock = some k → vf.ownBlock ≠ some k
  sz : n1 ≤ wr.heap.size
/-- the sources of a track beside the whole list -/
structure RpOt (n1 : Nat) (wr : World) (vs vf : Value) (F : List Src) : Prop where
  f : OwnL Src.cells 3 49 n1 wr vf F
  sep : ∀ k, vs.ownBlock = some k → vf.ownBlock ≠ some k
  sz : n1 ≤ wr.heap.size
section
variable {w wr w' : World} {be b g bd bc K N c n1 : Nat} {E4 D5 : List Value} {vs vs' v' vl vf : Value} {S S' : List Sec} {X X' F F' : List Src} {L L' : List Int}
theorem sep_row {v u : Value} (h : ∀ k, v.ownBlock = some k → u.ownBlock ≠ some k) : u.ownBlock = none ∨ u.ownBlock ≠ v.ownBlock := by
  cases hu : u.ownBlock with
  | none => exact .inl rfl
  | some k => exact .inr fun e => h k e.symm hu
theorem low_row {v : Value} {row : Option Nat} (hvs : ∀ k, v.ownBlock = some k → k < n1) (hr : ∀ k, row = some k → n1 ≤ k) : v.ownBlock = none ∨ v.ownBlock ≠ row := by
  cases hu : v.ownBlock with
  | none => exact .inl rfl
  | some k => exact .inr fun e => by have := hvs k hu; have := hr k e.symm; omega
theorem RepW.hi (h : RepW w be E4 D5 b g bd bc K N c wr vs S X) (o : RepO w be b g bd bc K) (hn : bc < n1) (hvs : ∀ k, vs.ownBlock = some k → k < n1) {row : Option Nat} (hg : wr.grownBy w' row) (hr : ∀ k, row = some k → n1 ≤ k) : RepW w be E4 D5 b g bd bc K N c w' vs S X := by
  obtain ⟨o0, o1, o2, o3, o3b, o4, o4g, o5, o5g⟩ := o
  have l := h.lt
  have ne : ∀ k, k < n1 → row ≠ some k := fun k hk e => by have := hr k e; omega
  exact ⟨h.bw.grown hg (by omega) (fun k hk => by have := hr k hk; omega), grown_row hg (by omega) (ne _ (by omega)) h.re, grown_row hg (by omega) (ne _ (by omega)) h.r2, grown_frozen hg (by omega) (ne _ (by omega)) h.f2, grown_row hg (by omega) (ne _ (by omega)) h.r3, grown_frozen hg (by omega) (ne _ (by omega)) h.f3, grown_row hg (by omega) (ne _ (by omega)) h.rd, grown_row hg (by omega) (ne _ (by omega)) h.rc, grown_frozen hg (by omega) (ne _ (by omega)) h.fc, OwnL.kept h.sec hg (.inr (fun e => ne g (by omega) e.symm)), OwnL.kept h.src hg (low_row hvs hr), h.hne, by have := hg.size; omega⟩
/-- ahead of the certificate's box -/
structure RepB (w : World) (be : Nat) (E4 D5 : List Value) (b g bd N c : Nat) (wr : World) (S : List Sec) : Prop where
  bw : Below w.heap.size w wr
  re : Row wr be E4
  r2 : Row wr b [.int .i64 0, .int .i64 0, .int .i64 0, .int .i64 0, .slice none 0 0]
  f2 : ∀ o, wr.frozen? ⟨b, o, none⟩ = false
  r3 : Row wr (b + 1) [.slice none 0 0]
  f3 : ∀ o, wr.frozen? ⟨b + 1, o, none⟩ = false
  rd : Row wr bd D5
  sec : SecOwn w.heap.size wr (.slice (some ⟨g, 0, none⟩) N c) S
  l0 : be ≤ b
  l1 : w.heap.size ≤ b
  l2 : b + 1 < g
  l3 : g ≠ bd
  l4 : b + 1 < bd
  l5 : bd < wr.heap.size
  l6 : g < wr.heap.size
theorem RpIn.below (h : RpIn n1 wr vl vf L F) (hb : Below wr.heap.size wr w') : RpIn n1 w' vl vf L F := ⟨OwnL.below h.l hb, OwnL.below h.f hb, h.sep, Nat.le_trans h.sz hb.size⟩
theorem RpIn.low (h : RpIn n1 wr vl vf L F) (hg : wr.grownBy w' (some g)) (hn : g < n1) : RpIn n1 w' vl vf L F :=
  ⟨OwnL.kept h.l hg (.inr (own_far h.l hn)), OwnL.kept h.f hg (.inr (own_far h.f hn)), h.sep, Nat.le_trans h.sz hg.size⟩
theorem RpIn.lt (h : RpIn n1 wr vl vf L F) : (∀ k, vl.ownBlock = some k → n1 ≤ k) ∧ (∀ k, vf.ownBlock = some k → n1 ≤ k) :=
  ⟨fun k hk => (World.ownsRow.lt h.l k hk).1, fun k hk => (World.ownsRow.lt h.f k hk).1⟩
theorem RpOt.below (h : RpOt n1 wr vs vf F) (hb : Below wr.heap.size wr w') : RpOt n1 w' vs vf F := ⟨OwnL.below h.f hb, h.sep, Nat.le_trans h.sz hb.size⟩
theorem RpOt.app (h : RpOt n1 wr vs vf F) (hg : wr.grownBy w' vs.ownBlock) (hat : v'.ownBlock = vs.ownBlock ∨ v'.ownBlock = some wr.heap.size) (hbc : bc < n1) : RpOt n1 (w'.setCell ⟨bc, 0, none⟩ v') v' vf F :=
  ⟨OwnL.kept (OwnL.kept h.f hg (sep_row h.sep)) (gset (World.grownBy.refl w' (some bc)) _ _) (.inr (own_far h.f hbc)), fun k hk e0 => by
    rcases hat with e | e
    · exact h.sep k (e.symm.trans hk) e0
    · rw [hk] at e; injection e with e; have := (World.ownsRow.lt h.f k e0).2; omega, by rw [setCell_size]; exact Nat.le_trans h.sz hg.size⟩
end
end Go.Proofs.YtddihmpiaemadaaGreatDoor
namespace Go.Proofs.YtddihmpiaemadaaGreatDoor
set_option linter.unusedVariables false
set_option linter.unusedSimpArgs false
open Go.RowKit
/-- the geometry of the first dump -/
def rdZ (e : Evd) : Dsc := e.ds.headD default
def rdS (e : Evd) : List Sec := rpS e (zSec (szN (rdZ e).size)) (rdZ e).per.toNat (rdZ e).secs.length (rdZ e).secs.length (rdZ e).secs.length
def rdX (e : Evd) : List Src := rpY e (zSec (szN (rdZ e).size)) (rdZ e).per.toNat (rdZ e).secs.length
def rdD (e : Evd) : Dsc := if evOk e = true then ⟨(rdZ e).cyl, (rdZ e).heads, (rdZ e).per, (rdZ e).size, rdS e⟩ else ⟨0, 0, 0, 0, []⟩
def rdY (e : Evd) : List Src := if evOk e = true then rdX e else []
def rdC (e : Evd) : Int := if evOk e = true then 0 else 1
def rdM (e : Evd) (k : Nat) : Bool := ((rdS e).getD k rpN).state == 3
def rpLo (e : Evd) : List Int := if evOk e = true then fltN (rdM e) (rdZ e).secs.length else []
structure RdF (e : Evd) (z : Dsc) (P m T N : Nat) : Prop where
  f : EvF e z P m T
  hn : T * P = N
  hz : rdZ e = z
  hp : z.per = (P : Int)
  hs : rdS e = rpS e (zSec m) P N N N
  hx : rdX e = rpY e (zSec m) P N
  hl : z.secs.length = N
  le : N ≤ 128
theorem rd_f {e : Evd} (h : evOk e = true) : ∃ z P m T N, RdF e z P m T N := by
  obtain ⟨z, P, m, T, F⟩ := ev_f h
  have hz : rdZ e = z := by
    have h0 := F.z0
    unfold rdZ
    cases hd : e.ds with
    | nil => rw [hd] at h0; simp at h0
    | cons a l => rw [hd] at h0; simpa using h0
  have hp : z.per = (P : Int) := F.per
  have hl : z.secs.length = T * P := F.secs
  have hm : szN z.size = m := F.siz.symm
  have hP : z.per.toNat = P := by rw [hp]; exact Int.toNat_natCast P
  exact ⟨z, P, m, T, T * P, F, rfl, hz, hp, by unfold rdS; rw [hz, hl, hm, hP], by unfold rdX; rw [hz, hl, hm, hP], hl, Nat.mul_le_mul F.t16 F.p8⟩
abbrev SixA (w : World) (bd bc : Nat) (a0 a1 a2 a3 a4 v : Value) : Prop := w.cell? ⟨bd, 0, none⟩ = some a0 ∧ w.cell? ⟨bd, 1, none⟩ = some a1 ∧ w.cell? ⟨bd, 2, none⟩ = some a2 ∧ w.cell? ⟨bd, 3, none⟩ = some a3 ∧ w.cell? ⟨bd, 4, none⟩ = some a4 ∧ w.cell? ⟨bc, 0, none⟩ = some v
theorem pair_ret {wr : World} {b b1 bd bc : Nat} {o0 o1 o2 o3 o4 ov a0 a1 a2 a3 a4 v : Value} (r2 : Row wr b [o0, o1, o2, o3, o4]) (r3 : Row wr b1 [ov]) (rd : Row wr bd [a0, a1, a2, a3, a4]) (rc : Row wr bc [v]) (h1 : bd ≠ b) (h2 : bd ≠ b1) (h3 : bc ≠ b) (h4 : bc ≠ b1) (hne2 : b ≠ b1) :
    SixA wr.drew bd bc a0 a1 a2 a3 a4 v ∧ SixA ((((((wr.setCell ⟨b, 0, none⟩ a0).setCell ⟨b, 1, none⟩ a1).setCell ⟨b, 2, none⟩ a2).setCell ⟨b, 3, none⟩ a3).setCell ⟨b, 4, none⟩ a4)).drew bd bc a0 a1 a2 a3 a4 v ∧ SixA (((((((wr.setCell ⟨b, 0, none⟩ a0).setCell ⟨b, 1, none⟩ a1).setCell ⟨b, 2, none⟩ a2).setCell ⟨b, 3, none⟩ a3).setCell ⟨b, 4, none⟩ a4).setCell ⟨b1, 0, none⟩ v)).drew bd bc a0 a1 a2 a3 a4 v ∧ Row ((((((wr.setCell ⟨b, 0, none⟩ a0).setCell ⟨b, 1, none⟩ a1).setCell ⟨b, 2, none⟩ a2).setCell ⟨b, 3, none⟩ a3).setCell ⟨b, 4, none⟩ a4).setCell ⟨b1, 0, none⟩ v) b [a0, a1, a2, a3, a4] ∧ Row ((((((wr.setCell ⟨b, 0, none⟩ a0).setCell ⟨b, 1, none⟩ a1).setCell ⟨b, 2, none⟩ a2).setCell ⟨b, 3, none⟩ a3).setCell ⟨b, 4, none⟩ a4).setCell ⟨b1, 0, none⟩ v) b1 [v] ∧ wr.grownBy (((((wr.setCell ⟨b, 0, none⟩ a0).setCell ⟨b, 1, none⟩ a1).setCell ⟨b, 2, none⟩ a2).setCell ⟨b, 3, none⟩ a3).setCell ⟨b, 4, none⟩ a4) (some b) ∧ World.grownBy (((((wr.setCell ⟨b, 0, none⟩ a0).setCell ⟨b, 1, none⟩ a1).setCell ⟨b, 2, none⟩ a2).setCell ⟨b, 3, none⟩ a3).setCell ⟨b, 4, none⟩ a4) ((((((wr.setCell ⟨b, 0, none⟩ a0).setCell ⟨b, 1, none⟩ a1).setCell ⟨b, 2, none⟩ a2).setCell ⟨b, 3, none⟩ a3).setCell ⟨b, 4, none⟩ a4).setCell ⟨b1, 0, none⟩ v) (some b1) := by
  have hK : ∀ w' : World, (∀ (k o : Nat), k ≠ b → k ≠ b1 → w'.cell? ⟨k, o, none⟩ = wr.cell? ⟨k, o, none⟩) → SixA w' bd bc a0 a1 a2 a3 a4 v := fun w' hk =>
    ⟨(hk _ _ h1 h2).trans (rd 0 _ rfl), (hk _ _ h1 h2).trans (rd 1 _ rfl), (hk _ _ h1 h2).trans (rd 2 _ rfl), (hk _ _ h1 h2).trans (rd 3 _ rfl), (hk _ _ h1 h2).trans (rd 4 _ rfl), (hk _ _ h3 h4).trans (rc 0 _ rfl)⟩
  have hne3 : b1 ≠ b := hne2.symm
  exact ⟨hK _ (fun k o h1 h2 => rfl), hK _ (fun k o h1 h2 => (cell_dr _ _).trans ((cell_oth h1).trans ((cell_oth h1).trans ((cell_oth h1).trans ((cell_oth h1).trans (cell_oth h1)))))), hK _ (fun k o h1 h2 => (cell_dr _ _).trans ((cell_oth h2).trans ((cell_oth h1).trans ((cell_oth h1).trans ((cell_oth h1).trans ((cell_oth h1).trans (cell_oth h1))))))),
    (set5_row r2 a0 a1 a2 a3 a4).set_other (g := b1) (o := 0) v hne2,
    (((((r3.set_other (g := b) (o := 0) a0 hne3).set_other (g := b) (o := 1) a1 hne3).set_other (g := b) (o := 2) a2 hne3).set_other (g := b) (o := 3) a3 hne3).set_other (g := b) (o := 4) a4 hne3).set (o := 0) v (by simp),
    gset (gset (gset (gset (gset (World.grownBy.refl wr _) _ _) _ _) _ _) _ _) _ _, gset (World.grownBy.refl _ _) _ _⟩
end Go.Proofs.YtddihmpiaemadaaGreatDoor
namespace Go.Proofs
open Go.Shelf
def Tryz.sortR_ren : Go.Shelf.Ren := ⟨fun | 6 => 48 | 15 => 84 | 14 => 83 | 28 => 110 | 29 => 111 | 20 => 102 | 21 => 103 | 22 => 104 | 23 => 105 | 24 => 106 | 25 => 107 | 26 => 108 | 27 => 109 | 46 => 140 | 47 => 141 | 48 => 142 | 49 => 143 | 50 => 144 | 57 => 175 | n => n, fun | 22 => 33 | 24 => 49 | 25 => 101 | 3 => 3 | 39 => 133 | 0 => 0 | 53 => 161 | 55 => 84 | 4 => 4 | 46 => 154 | 45 => 153 | 50 => 158 | 5 => 5 | 9 => 9 | 66 => 185 | 70 => 189 | 76 => 222 | 77 => 223 | n => n, fun | n => n⟩
theorem Tryz.sortR : Go.Proofs.SlLaysF0.n6 Tryz.prog Tryz.sortR_ren := {
  mixed := by kernel_rfl
  f6 := ⟨Tryz.f48.name, by decide, Tryz.func48.trans (congrArg some (by kernel_rfl))⟩
  f14 := ⟨Tryz.f83.name, by decide, Tryz.func83.trans (congrArg some (by kernel_rfl))⟩
  f15 := Tryz.func84.trans (congrArg some (by kernel_rfl))
  f20 := ⟨Tryz.f102.name, by decide, Tryz.func102.trans (congrArg some (by kernel_rfl))⟩
  f21 := ⟨Tryz.f103.name, by decide, Tryz.func103.trans (congrArg some (by kernel_rfl))⟩
  f22 := ⟨Tryz.f104.name, by decide, Tryz.func104.trans (congrArg some (by kernel_rfl))⟩
  f23 := ⟨Tryz.f105.name, by decide, Tryz.func105.trans (congrArg some (by kernel_rfl))⟩
  f24 := ⟨Tryz.f106.name, by decide, Tryz.func106.trans (congrArg some (by kernel_rfl))⟩
  f25 := ⟨Tryz.f107.name, by decide, Tryz.func107.trans (congrArg some (by kernel_rfl))⟩
  f26 := ⟨Tryz.f108.name, by decide, Tryz.func108.trans (congrArg some (by kernel_rfl))⟩
  f27 := ⟨Tryz.f109.name, by decide, Tryz.func109.trans (congrArg some (by kernel_rfl))⟩
  f28 := Tryz.func110.trans (congrArg some (by kernel_rfl))
  f29 := Tryz.func111.trans (congrArg some (by kernel_rfl))
  f46 := ⟨Tryz.f140.name, by decide, Tryz.func140.trans (congrArg some (by kernel_rfl))⟩
  f47 := Tryz.func141.trans (congrArg some (by kernel_rfl))
  f48 := Tryz.func142.trans (congrArg some (by kernel_rfl))
  f49 := ⟨Tryz.f143.name, by decide, Tryz.func143.trans (congrArg some (by kernel_rfl))⟩
  f50 := ⟨Tryz.f144.name, by decide, Tryz.func144.trans (congrArg some (by kernel_rfl))⟩
  f57 := ⟨Tryz.f175.name, by decide, Tryz.func175.trans (congrArg some (by kernel_rfl))⟩
  t0 := Tryz.underlying0
  a0 := Tryz.isAgg0
  z0 := Tryz.sizeOf0
  v0 := Tryz.zeroValue0
  t3 := Tryz.underlying3
  a3 := Tryz.isAgg3
  z3 := Tryz.sizeOf3
  v3 := Tryz.zeroValue3
  t4 := Tryz.underlying4
  a4 := Tryz.isAgg4
  z4 := Tryz.sizeOf4
  v4 := Tryz.zeroValue4
  t5 := Tryz.underlying5
  a5 := Tryz.isAgg5
  z5 := Tryz.sizeOf5
  v5 := Tryz.zeroValue5
  t9 := Tryz.underlying9
  a9 := Tryz.isAgg9
  z9 := Tryz.sizeOf9
  v9 := Tryz.zeroValue9
  t22 := Tryz.underlying33
  a22 := Tryz.isAgg33
  z22 := Tryz.sizeOf33
  v22 := Tryz.zeroValue33
  t25 := Tryz.underlying101
  a25 := Tryz.isAgg101
  z25 := Tryz.sizeOf101
  v25 := Tryz.zeroValue101
  t39 := Tryz.underlying133
  a39 := Tryz.isAgg133
  z39 := Tryz.sizeOf133
  v39 := Tryz.zeroValue133
  t45 := Tryz.underlying153
  a45 := Tryz.isAgg153
  z45 := Tryz.sizeOf153
  v45 := Tryz.zeroValue153
  t46 := Tryz.underlying154
  a46 := Tryz.isAgg154
  z46 := Tryz.sizeOf154
  v46 := Tryz.zeroValue154
  t50 := Tryz.underlying158
  a50 := Tryz.isAgg158
  z50 := Tryz.sizeOf158
  v50 := Tryz.zeroValue158
  t53 := Tryz.underlying161
  a53 := Tryz.isAgg161
  z53 := Tryz.sizeOf161
  v53 := Tryz.zeroValue161
  t55 := Tryz.underlying84
  a55 := Tryz.isAgg84
  z55 := Tryz.sizeOf84
  v55 := Tryz.zeroValue84
  t66 := Tryz.underlying185
  a66 := Tryz.isAgg185
  z66 := Tryz.sizeOf185
  v66 := Tryz.zeroValue185
  t70 := Tryz.underlying189
  a70 := Tryz.isAgg189
  z70 := Tryz.sizeOf189
  v70 := Tryz.zeroValue189
  t76 := Tryz.underlying222
  a76 := Tryz.isAgg222
  z76 := Tryz.sizeOf222
  v76 := Tryz.zeroValue222
  t77 := Tryz.underlying223
  a77 := Tryz.isAgg223
  z77 := Tryz.sizeOf223
  v77 := Tryz.zeroValue223 }
end Go.Proofs
namespace Go.Proofs.YtddihmpiaemadaaGreatDoor
set_option linter.unusedVariables false
set_option linter.unusedSimpArgs false
open Go.RowKit Go.Sort
set_option maxRecDepth 20000 in
set_option maxHeartbeats 1000000 in
theorem cmp_i (x y : SrcS) (w : World) : Calls Tryz.prog 49 #[.agg (encS x).toArray, .agg (encS y).toArray] w fun e w' => e = .returned (.int .i64 (cmpS x y)) ∧ ∃ q os', w' = grow (w.drewN q) os' := by
  obtain ⟨⟨k1, s1, d1⟩, hx0, hx1⟩ := x
  obtain ⟨⟨k2, s2, d2⟩, hy0, hy1⟩ := y
  simp only at hx0 hx1 hy0 hy1
  have hcm : Hid (cmpS ⟨⟨k1, s1, d1⟩, hx0, hx1⟩ ⟨⟨k2, s2, d2⟩, hy0, hy1⟩ = s1 - s2) := Lib.hid rfl
  generalize cmpS ⟨⟨k1, s1, d1⟩, hx0, hx1⟩ ⟨⟨k2, s2, d2⟩, hy0, hy1⟩ = R at *
  show Calls Tryz.prog 49 #[.agg #[.int .i64 k1, .int .i64 s1, .int .i64 d1], .agg #[.int .i64 k2, .int .i64 s2, .int .i64 d2]] w _
  go_enter Tryz.func49, Tryz.ntmps49
  have HX : Hid (∃ q os', ((w.alloc (.cells #[.int .i64 k1, .int .i64 s1, .int .i64 d1] 49)).alloc (.cells #[.int .i64 k2, .int .i64 s2, .int .i64 d2] 49)) = grow (w.drewN q) os') := Lib.hid ⟨0, #[.cells #[.int .i64 k1, .int .i64 s1, .int .i64 d1] 49, .cells #[.int .i64 k2, .int .i64 s2, .int .i64 d2] 49], by rw [alloc_eq_grow, alloc_eq_grow, grow_grow]; rfl⟩
  go_wp2
  go_ret
  exact ⟨ret_int (by rw [hcm.out]), HX.out⟩
theorem cmp_lays (g size : Nat) (w : World) : Go.Proofs.CmpLays Tryz.prog 49 #[] encS 3 cmpS g 0 size w :=
  fun _ _ _ _ x y => cmp_i x y _
theorem sort_i (B g c : Nat) (d : Array SrcS) (w : World) (h : OwnL Src.cells 3 49 B w (.slice (some ⟨g, 0, none⟩) d.size c) (srL d)) (hr : (srL d).Pairwise fun a b => a.sector ≠ b.sector) (hn : d.size ≤ 1048576) :
    Calls Tryz.prog 48 #[.slice (some ⟨g, 0, none⟩) d.size c, .func (.func 49) #[] #[]] w fun e w' => e = .returned (.tuple #[]) ∧ (∃ d' : Array SrcS, d'.size = d.size ∧ OwnL Src.cells 3 49 B w' (.slice (some ⟨g, 0, none⟩) d.size c) (srL d') ∧ (srL d').Perm (srL d) ∧ SrtL (srL d')) ∧ Below g w w' := by
  have hgB : B ≤ g ∧ g < w.heap.size := World.ownsRow.lt h g rfl
  have eg : ∀ args w, (callFunc 49 args).run Tryz.prog w = .ok (.enter 49 args) w := enters_of Tryz.func49 (by kernel_rfl) rfl
  have hcon := Go.Proofs.AnyQ.slices_SortFunc Tryz.sortR 3 Tryz.isAgg49 Tryz.sizeOf49 encS (fun _ => rfl) (fun x => by simp [encS, Src.cells, Value.oneCell']) cmpS swoS 49 #[] g 0 c d w eg (cmp_lays g d.size w) (holds_srcs h) hgB.2 (by omega)
  refine hcon.mono ?_
  rintro e w' ⟨rfl, d', n, os, hp, hs, rfl⟩
  obtain ⟨r1, r2⟩ := sorted_srcs hp hs hr
  exact ⟨rfl, ⟨d', hp.1, own_sortedS h hp.1, r1, r2⟩, below_sortedS hgB.2⟩
theorem sort_none (c : Nat) (A : Option Addr) (w : World) : Calls Tryz.prog 48 #[.slice A 0 c, .func (.func 49) #[] #[]] w fun e w' => e = .returned (.tuple #[]) ∧ w' = w :=
  Go.Proofs.AnyF.slices_SortFunc_none Tryz.sortR A c _ w
theorem sort_any (B K : Nat) (v : Value) (X Y : List Src) (w : World) (h : OwnL Src.cells 3 49 K w v X) (hn : X.Pairwise fun a b => a.sector ≠ b.sector) (hs : ∀ s ∈ X, 0 ≤ s.sector ∧ s.sector ≤ 1048576) (hl : X.length ≤ 1048576) (hp : X.Perm Y) (hy : SrtL Y) :
    Calls Tryz.prog 48 #[v, .func (.func 49) #[] #[]] w fun r w' => r = .returned (.tuple #[]) ∧ OwnL Src.cells 3 49 K w' v Y ∧ Below K w w' := by
  obtain ⟨A, c, rfl, hX⟩ := OwnL.shape h
  rcases hX with rfl | ⟨g, rfl, hg, hgw⟩
  · refine (sort_none c A w).mono ?_; rintro r w' ⟨rfl, rfl⟩
    rw [List.nil_perm.1 hp]
    exact ⟨rfl, h, Below.refl _ _⟩
  · obtain ⟨d, rfl⟩ := as_srcs hs
    have hc := sort_i K g c d w (by rw [srL_len] at h; exact h) hn (by rw [srL_len] at hl; exact hl)
    rw [srL_len]
    refine hc.mono ?_; rintro r w' ⟨rfl, ⟨d', _, ho, hp', hs'⟩, hb⟩
    have he := srt_eq hs' hy (hp'.trans hp)
    rw [he] at ho
    exact ⟨rfl, ho, hb.mono hg⟩
end Go.Proofs.YtddihmpiaemadaaGreatDoor
