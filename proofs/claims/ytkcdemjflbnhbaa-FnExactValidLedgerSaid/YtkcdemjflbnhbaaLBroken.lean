/- FnExactFirstBroken and FnExactValidLedger return true for every list of entries: no condition. -/
import Derived.Test.YtkcdemjflbnhbaaBroken
import Derived.Test.YtkcdemjflbnhbaaOEntry
namespace Go.Proofs.Ytkcdemjflbnhbaa
open Go.ChangeShapes Go.WideShapes Go.ChangeAt Go.RowKit

abbrev EntL (B : Nat) (w : World) (v : Value) (l : List Ent) : Prop := OwnL Ent.cells 4 49 B w v l
theorem EntS.of {B g c : Nat} {w : World} {l : List Ent} (h : EntL B w (.slice (some ⟨g, 0, none⟩) l.length c) l) (hg : g < w.heap.size) : EntS w g l :=
  ⟨hg, fun k e he => ⟨OwnL.cell Ent.len h he (j := 0) rfl, OwnL.cell Ent.len h he rfl, OwnL.cell Ent.len h he rfl, OwnL.cell Ent.len h he rfl⟩⟩
set_option maxHeartbeats 1000000 in
theorem brokenL_i (B : Nat) (v : Value) (l : List Ent) (w : World) (hn : l.length ≤ 1048576) (h : EntL B w v l) (hv : ∀ e ∈ l, e.verb.size ≤ 1048576) :
    Calls Try.prog 16 #[v] w fun e w' => e = .returned (.int .i64 (broken 0 0 0 l)) ∧ Below w.heap.size w w' := by
  obtain ⟨A, c, rfl, hA⟩ := h.shape
  rcases hA with rfl | ⟨g, rfl, _, hg⟩
  · go_enter Try.func16, Try.ntmps16
    go_wp2
    refine wp_loop_once ?_
    go_wp2
    go_ret
    exact ⟨rfl, (by repeat (first | exact Below.refl _ _ | refine Below.alloc ?_ (by first | omega | (simp; done) | (simp; omega)) _ | apply Below.drew | apply below_drewN | refine Below.setCell ?_ (by first | omega | (simp; done) | (simp; omega)) _ | refine Below.trans ?_ (Below.mono (by assumption) (by first | omega | (simp; done) | (simp; omega)))))⟩
  · exact broken_i g l.length c l w rfl hn (EntS.of h hg) hv
set_option maxHeartbeats 1000000 in
theorem brokenL_s (B : Nat) (v : Value) (l : List Ent) (w : World) (hn : l.length ≤ 1048576) (h : EntL B w v l) (hv : ∀ e ∈ l, e.verb.size ≤ 1048576) :
    Calls Try.prog 37 #[v] w fun e w' => e = .returned (.int .i64 (broken 0 0 0 l)) ∧ Below w.heap.size w w' := by
  obtain ⟨A, c, rfl, hA⟩ := h.shape
  rcases hA with rfl | ⟨g, rfl, _, hg⟩
  · go_enter Try.func37, Try.ntmps37
    go_wp2
    refine wp_loop_once ?_
    go_wp2
    go_ret
    exact ⟨rfl, (by repeat (first | exact Below.refl _ _ | refine Below.alloc ?_ (by first | omega | (simp; done) | (simp; omega)) _ | apply Below.drew | apply below_drewN | refine Below.setCell ?_ (by first | omega | (simp; done) | (simp; omega)) _ | refine Below.trans ?_ (Below.mono (by assumption) (by first | omega | (simp; done) | (simp; omega)))))⟩
  · exact broken_s g l.length c l w rfl hn (EntS.of h hg) hv
theorem fbroken_s (B : Nat) (v : Value) (l : List Ent) (w : World) (hn : l.length ≤ 1048576) (h : EntL B w v l) (hv : ∀ e ∈ l, e.verb.size ≤ 1048576) :
    Calls Try.prog 14 #[v] w fun e w' => e = .returned (.int .i64 (broken 0 0 0 l)) ∧ Below w.heap.size w w' := by
  go_enter Try.func14, Try.ntmps14
  go_wp2_with (go_at_call 37; refine (brokenL_s B v l w hn h hv).mono ?_; rintro e w1 ⟨rfl, hb1⟩)
  go_ret
  exact ⟨rfl, (by repeat (first | exact Below.refl _ _ | refine Below.alloc ?_ (by first | omega | (simp; done) | (simp; omega)) _ | apply Below.drew | apply below_drewN | refine Below.setCell ?_ (by first | omega | (simp; done) | (simp; omega)) _ | refine Below.trans ?_ (Below.mono (by assumption) (by first | omega | (simp; done) | (simp; omega)))))⟩
def ledgerOk (l : List Ent) : Bool := decide (broken 0 0 0 l < 0)
theorem valid_i (B : Nat) (v : Value) (l : List Ent) (w : World) (hn : l.length ≤ 1048576) (h : EntL B w v l) (hv : ∀ e ∈ l, e.verb.size ≤ 1048576) :
    Calls Try.prog 19 #[v] w fun e w' => e = .returned (.bool (ledgerOk l)) ∧ Below w.heap.size w w' := by
  go_enter Try.func19, Try.ntmps19
  go_wp2_with (go_at_call 16; refine (brokenL_i B v l w hn h hv).mono ?_; rintro e w1 ⟨rfl, hb1⟩)
  go_ret
  exact ⟨rfl, (by repeat (first | exact Below.refl _ _ | refine Below.alloc ?_ (by first | omega | (simp; done) | (simp; omega)) _ | apply Below.drew | apply below_drewN | refine Below.setCell ?_ (by first | omega | (simp; done) | (simp; omega)) _ | refine Below.trans ?_ (Below.mono (by assumption) (by first | omega | (simp; done) | (simp; omega)))))⟩
theorem valid_s0 (B : Nat) (v : Value) (l : List Ent) (w : World) (hn : l.length ≤ 1048576) (h : EntL B w v l) (hv : ∀ e ∈ l, e.verb.size ≤ 1048576) :
    Calls Try.prog 42 #[v] w fun e w' => e = .returned (.bool (ledgerOk l)) ∧ Below w.heap.size w w' := by
  go_enter Try.func42, Try.ntmps42
  go_wp2_with (go_at_call 37; refine (brokenL_s B v l w hn h hv).mono ?_; rintro e w1 ⟨rfl, hb1⟩)
  go_ret
  exact ⟨rfl, (by repeat (first | exact Below.refl _ _ | refine Below.alloc ?_ (by first | omega | (simp; done) | (simp; omega)) _ | apply Below.drew | apply below_drewN | refine Below.setCell ?_ (by first | omega | (simp; done) | (simp; omega)) _ | refine Below.trans ?_ (Below.mono (by assumption) (by first | omega | (simp; done) | (simp; omega)))))⟩
theorem valid_s (B : Nat) (v : Value) (l : List Ent) (w : World) (hn : l.length ≤ 1048576) (h : EntL B w v l) (hv : ∀ e ∈ l, e.verb.size ≤ 1048576) :
    Calls Try.prog 18 #[v] w fun e w' => e = .returned (.bool (ledgerOk l)) ∧ Below w.heap.size w w' := by
  go_enter Try.func18, Try.ntmps18
  go_wp2_with (go_at_call 42; refine (valid_s0 B v l w hn h hv).mono ?_; rintro e w1 ⟨rfl, hb1⟩)
  go_ret
  exact ⟨rfl, (by repeat (first | exact Below.refl _ _ | refine Below.alloc ?_ (by first | omega | (simp; done) | (simp; omega)) _ | apply Below.drew | apply below_drewN | refine Below.setCell ?_ (by first | omega | (simp; done) | (simp; omega)) _ | refine Below.trans ?_ (Below.mono (by assumption) (by first | omega | (simp; done) | (simp; omega)))))⟩
theorem wt_le {l : List Ent} {e : Ent} (he : e ∈ l) : e.verb.size ≤ Ent.wts l := by
  induction l with
  | nil => cases he
  | cons a l ih =>
    show _ ≤ a.wt + Ent.wts l
    cases List.mem_cons.1 he with
    | inl h => subst h; exact Nat.le_add_right _ _
    | inr h => exact Nat.le_trans (ih h) (Nat.le_add_left _ _)

set_option maxHeartbeats 1000000 in
theorem lFirstBroken (l : List Ent) (v : Value) (w : World) (hr : RawL Ent.cells 4 w v l) (hm : ∀ e ∈ l, e.verb.size ≤ maxLen) :
    Calls Try.prog 4 #[v] w fun e w' => e = .returned (.bool true) ∧ Below w.heap.size w w' := by
  by_cases hsz : ((l.length + Ent.wts l : Nat) : Int) ≤ 1048576
  · have H : 0 ≤ szR 1048576 (l.length + Ent.wts l) := szR_pos.2 hsz
    have hv : ∀ e ∈ l, e.verb.size ≤ 1048576 := fun e he => by have := wt_le he; omega
    go_enter Try.func4, Try.ntmps4
    go_wp2_with (fail)
    refine (szEntryS l v _ hr hm).mono ?_; rintro e w1 ⟨rfl, hb1⟩
    go_wp2_with (fail)
    refine (toEntryS l v _ (hr.below (by repeat (first | exact Below.refl _ _ | refine Below.alloc ?_ (by first | omega | (simp; done) | (simp; omega)) _ | apply Below.drew | apply below_drewN | refine Below.setCell ?_ (by first | omega | (simp; done) | (simp; omega)) _ | refine Below.trans ?_ (Below.mono (by assumption) (by first | omega | (simp; done) | (simp; omega)))))) (by omega)).mono ?_; rintro e w2 ⟨v2, rfl, ho2, hb2⟩
    have hz1 := hb1.size
    have hz2 := hb2.size
    go_wp2_with (fail)
    refine (fbroken_s _ _ l _ (by omega) ho2 hv).mono ?_; rintro e w3 ⟨rfl, hb3⟩
    have hz3 := hb3.size
    go_wp2_with (fail)
    refine (toEntryS l v _ (hr.below (by repeat (first | exact Below.refl _ _ | refine Below.alloc ?_ (by first | omega | (simp; done) | (simp; omega)) _ | apply Below.drew | apply below_drewN | refine Below.setCell ?_ (by first | omega | (simp; done) | (simp; omega)) _ | refine Below.trans ?_ (Below.mono (by assumption) (by first | omega | (simp; done) | (simp; omega)))))) (by omega)).mono ?_; rintro e w4 ⟨v4, rfl, ho4, hb4⟩
    have hz4 := hb4.size
    go_wp2_with (fail)
    refine (brokenL_i _ _ l _ (by omega) ho4 hv).mono ?_; rintro e w5 ⟨rfl, hb5⟩
    have hz5 := hb5.size
    have ho5 := ho4.below hb5
    go_wp2_with (fail)
    refine (toEntryS l v _ (hr.below (by repeat (first | exact Below.refl _ _ | refine Below.alloc ?_ (by first | omega | (simp; done) | (simp; omega)) _ | apply Below.drew | apply below_drewN | refine Below.setCell ?_ (by first | omega | (simp; done) | (simp; omega)) _ | refine Below.trans ?_ (Below.mono (by assumption) (by first | omega | (simp; done) | (simp; omega)))))) (by omega)).mono ?_; rintro e w6 ⟨v6, rfl, ho6, hb6⟩
    have hz6 := hb6.size
    go_wp2_with (fail)
    refine (eqEntryS l _ _ _ _ _ (ho5.below hb6) ho6 (by omega)).mono ?_; rintro e w7 ⟨rfl, hb7⟩
    go_wp2_with (fail)
    go_ret
    exact ⟨rfl, (by repeat (first | exact Below.refl _ _ | refine Below.alloc ?_ (by first | omega | (simp; done) | (simp; omega)) _ | apply Below.drew | apply below_drewN | refine Below.setCell ?_ (by first | omega | (simp; done) | (simp; omega)) _ | refine Below.trans ?_ (Below.mono (by assumption) (by first | omega | (simp; done) | (simp; omega)))))⟩
  · have H : szR 1048576 (l.length + Ent.wts l) < 0 := szR_neg.2 hsz
    go_enter Try.func4, Try.ntmps4
    go_wp2_with (go_at_call 13; refine (szEntryS l v _ hr hm).mono ?_; rintro e w1 ⟨rfl, hb1⟩)
    go_ret
    exact ⟨rfl, (by repeat (first | exact Below.refl _ _ | refine Below.alloc ?_ (by first | omega | (simp; done) | (simp; omega)) _ | apply Below.drew | apply below_drewN | refine Below.setCell ?_ (by first | omega | (simp; done) | (simp; omega)) _ | refine Below.trans ?_ (Below.mono (by assumption) (by first | omega | (simp; done) | (simp; omega)))))⟩
namespace frameFnExactFirstBroken
theorem own : ownKnob Try.prog.godebug = none := by kernel_rfl
theorem laidOut : laidOutB Try.prog = true := by kernel_rfl
set_option maxRecDepth 100000 in
theorem lifted (os : Os) (started : os.Started) (H : Type) (enc : TypeId × Value → H) :
    ReturnsInHanded {} Try.checked os 4 .any (Rows.fnExactFirstBrokenSpec.pre6 enc Try.prog Try.f4 Rows.fnExactFirstBrokenRow.domain false) (Rows.fnExactFirstBrokenSpec.post enc Try.prog Try.f4 false true false false) := by
  refine returnsInHanded_of_change (C := Try.checked) own started (by kernel_rfl) Try.func4
    (ChangeSpec.witness6 (enc := enc) (C := Try.checked) false ⟨#[], #[.slice none 0 0], []⟩ 8 (by kernel_rfl) (by kernel_rfl) (by kernel_rfl) (by kernel_rfl)) ?_
  intro W base args ds gs before hval0 hW hcnd _
  have hval : ∀ (j : Nat) t v, Try.f4.params[j]? = some t → args[j]? = some v → Value.okWide Try.prog W .any base t v := hval0
  have hW' := hW
  obtain ⟨p, q, hA0, hV, rfl, hfz, hnd⟩ := hW
  have hA : DataW.TrodAll enc Try.prog W 0 (fun _ => true) true Try.f4.params.toList args.toList ds p := hA0
  rw [Try.params4] at hA hval
  obtain ⟨v0, vs0, d0, ds0, p0, q0, hargs, rfl, rfl, h0, r0⟩ := trodAll_cons hA
  obtain ⟨rfl, rfl, rfl⟩ := trodAll_nil r0
  obtain rfl : args = #[v0] := by cases args; simp_all
  obtain ⟨rfl, rfl⟩ := trodVars_none hV
  have k0 := h0
  have lt0 : ∀ x ∈ p0, x.block < W.heap.size := by obtain ⟨m, hm⟩ := k0; exact DataW.trod_lt m _ _ _ hm
  have e0 := hval 0 23 v0 rfl rfl
  clear hA0 hval0 hval
  obtain ⟨l, a1, a2⟩ := o_EntryS e0 h0
  refine (lFirstBroken l _ W a1 a2).mono fun e W' ⟨he, bel⟩ => ?_
  subst he
  exact ⟨_, rfl, _, _, _, [], _, [], hW', trodAll_mk1 (shut_bool Try.underlying4 _), (trodAll_cons_mk (Below.trod laidOut (by kernel_rfl) (of_decide_eq_true (by kernel_rfl)) k0 bel lt0) trodAll_mk0), rfl, bel.frame _, fun h => by cases h⟩

theorem proved : Rows.FnExactFirstBrokenSaid :=
  OpenClaim.holds_of_wide 4 Try.f4 rfl rfl rfl rfl rfl rfl rfl ⟨rfl, rfl, rfl, rfl, rfl⟩ rfl rfl rfl rfl rfl (by kernel_rfl) Try.func4 (by kernel_rfl)
    (of_decide_eq_true (by kernel_rfl)) (by unfold Func.isWrapper; first | (rw [if_pos (by decide +kernel)]; kernel_rfl) | (rw [if_neg (by decide +kernel)]; exact ⟨rfl, rfl⟩))
    (fun os started H enc _ => lifted os started H enc)
end frameFnExactFirstBroken
set_option maxHeartbeats 1000000 in
theorem lValidLedger (l : List Ent) (v : Value) (w : World) (hr : RawL Ent.cells 4 w v l) (hm : ∀ e ∈ l, e.verb.size ≤ maxLen) :
    Calls Try.prog 5 #[v] w fun e w' => e = .returned (.bool true) ∧ Below w.heap.size w w' := by
  by_cases hsz : ((l.length + Ent.wts l : Nat) : Int) ≤ 1048576
  · have H : 0 ≤ szR 1048576 (l.length + Ent.wts l) := szR_pos.2 hsz
    have hv : ∀ e ∈ l, e.verb.size ≤ 1048576 := fun e he => by have := wt_le he; omega
    go_enter Try.func5, Try.ntmps5
    go_wp2_with (fail)
    refine (szEntryS l v _ hr hm).mono ?_; rintro e w1 ⟨rfl, hb1⟩
    go_wp2_with (fail)
    refine (toEntryS l v _ (hr.below (by repeat (first | exact Below.refl _ _ | refine Below.alloc ?_ (by first | omega | (simp; done) | (simp; omega)) _ | apply Below.drew | apply below_drewN | refine Below.setCell ?_ (by first | omega | (simp; done) | (simp; omega)) _ | refine Below.trans ?_ (Below.mono (by assumption) (by first | omega | (simp; done) | (simp; omega)))))) (by omega)).mono ?_; rintro e w2 ⟨v2, rfl, ho2, hb2⟩
    have hz1 := hb1.size
    have hz2 := hb2.size
    go_wp2_with (fail)
    refine (valid_s _ _ l _ (by omega) ho2 hv).mono ?_; rintro e w3 ⟨rfl, hb3⟩
    have hz3 := hb3.size
    go_wp2_with (fail)
    refine (toEntryS l v _ (hr.below (by repeat (first | exact Below.refl _ _ | refine Below.alloc ?_ (by first | omega | (simp; done) | (simp; omega)) _ | apply Below.drew | apply below_drewN | refine Below.setCell ?_ (by first | omega | (simp; done) | (simp; omega)) _ | refine Below.trans ?_ (Below.mono (by assumption) (by first | omega | (simp; done) | (simp; omega)))))) (by omega)).mono ?_; rintro e w4 ⟨v4, rfl, ho4, hb4⟩
    have hz4 := hb4.size
    go_wp2_with (fail)
    refine (valid_i _ _ l _ (by omega) ho4 hv).mono ?_; rintro e w5 ⟨rfl, hb5⟩
    have hz5 := hb5.size
    have ho5 := ho4.below hb5
    go_wp2_with (fail)
    refine (toEntryS l v _ (hr.below (by repeat (first | exact Below.refl _ _ | refine Below.alloc ?_ (by first | omega | (simp; done) | (simp; omega)) _ | apply Below.drew | apply below_drewN | refine Below.setCell ?_ (by first | omega | (simp; done) | (simp; omega)) _ | refine Below.trans ?_ (Below.mono (by assumption) (by first | omega | (simp; done) | (simp; omega)))))) (by omega)).mono ?_; rintro e w6 ⟨v6, rfl, ho6, hb6⟩
    have hz6 := hb6.size
    go_wp2_with (fail)
    refine (eqEntryS l _ _ _ _ _ (ho5.below hb6) ho6 (by omega)).mono ?_; rintro e w7 ⟨rfl, hb7⟩
    go_wp2_with (fail)
    go_ret
    exact ⟨rfl, (by repeat (first | exact Below.refl _ _ | refine Below.alloc ?_ (by first | omega | (simp; done) | (simp; omega)) _ | apply Below.drew | apply below_drewN | refine Below.setCell ?_ (by first | omega | (simp; done) | (simp; omega)) _ | refine Below.trans ?_ (Below.mono (by assumption) (by first | omega | (simp; done) | (simp; omega)))))⟩
  · have H : szR 1048576 (l.length + Ent.wts l) < 0 := szR_neg.2 hsz
    go_enter Try.func5, Try.ntmps5
    go_wp2_with (go_at_call 13; refine (szEntryS l v _ hr hm).mono ?_; rintro e w1 ⟨rfl, hb1⟩)
    go_ret
    exact ⟨rfl, (by repeat (first | exact Below.refl _ _ | refine Below.alloc ?_ (by first | omega | (simp; done) | (simp; omega)) _ | apply Below.drew | apply below_drewN | refine Below.setCell ?_ (by first | omega | (simp; done) | (simp; omega)) _ | refine Below.trans ?_ (Below.mono (by assumption) (by first | omega | (simp; done) | (simp; omega)))))⟩
namespace frameFnExactValidLedger
theorem own : ownKnob Try.prog.godebug = none := by kernel_rfl
theorem laidOut : laidOutB Try.prog = true := by kernel_rfl
set_option maxRecDepth 100000 in
theorem lifted (os : Os) (started : os.Started) (H : Type) (enc : TypeId × Value → H) :
    ReturnsInHanded {} Try.checked os 5 .any (Rows.fnExactValidLedgerSpec.pre6 enc Try.prog Try.f5 Rows.fnExactValidLedgerRow.domain false) (Rows.fnExactValidLedgerSpec.post enc Try.prog Try.f5 false true false false) := by
  refine returnsInHanded_of_change (C := Try.checked) own started (by kernel_rfl) Try.func5
    (ChangeSpec.witness6 (enc := enc) (C := Try.checked) false ⟨#[], #[.slice none 0 0], []⟩ 8 (by kernel_rfl) (by kernel_rfl) (by kernel_rfl) (by kernel_rfl)) ?_
  intro W base args ds gs before hval0 hW hcnd _
  have hval : ∀ (j : Nat) t v, Try.f5.params[j]? = some t → args[j]? = some v → Value.okWide Try.prog W .any base t v := hval0
  have hW' := hW
  obtain ⟨p, q, hA0, hV, rfl, hfz, hnd⟩ := hW
  have hA : DataW.TrodAll enc Try.prog W 0 (fun _ => true) true Try.f5.params.toList args.toList ds p := hA0
  rw [Try.params5] at hA hval
  obtain ⟨v0, vs0, d0, ds0, p0, q0, hargs, rfl, rfl, h0, r0⟩ := trodAll_cons hA
  obtain ⟨rfl, rfl, rfl⟩ := trodAll_nil r0
  obtain rfl : args = #[v0] := by cases args; simp_all
  obtain ⟨rfl, rfl⟩ := trodVars_none hV
  have k0 := h0
  have lt0 : ∀ x ∈ p0, x.block < W.heap.size := by obtain ⟨m, hm⟩ := k0; exact DataW.trod_lt m _ _ _ hm
  have e0 := hval 0 23 v0 rfl rfl
  clear hA0 hval0 hval
  obtain ⟨l, a1, a2⟩ := o_EntryS e0 h0
  refine (lValidLedger l _ W a1 a2).mono fun e W' ⟨he, bel⟩ => ?_
  subst he
  exact ⟨_, rfl, _, _, _, [], _, [], hW', trodAll_mk1 (shut_bool Try.underlying4 _), (trodAll_cons_mk (Below.trod laidOut (by kernel_rfl) (of_decide_eq_true (by kernel_rfl)) k0 bel lt0) trodAll_mk0), rfl, bel.frame _, fun h => by cases h⟩

theorem proved : Rows.FnExactValidLedgerSaid :=
  OpenClaim.holds_of_wide 5 Try.f5 rfl rfl rfl rfl rfl rfl rfl ⟨rfl, rfl, rfl, rfl, rfl⟩ rfl rfl rfl rfl rfl (by kernel_rfl) Try.func5 (by kernel_rfl)
    (of_decide_eq_true (by kernel_rfl)) (by unfold Func.isWrapper; first | (rw [if_pos (by decide +kernel)]; kernel_rfl) | (rw [if_neg (by decide +kernel)]; exact ⟨rfl, rfl⟩))
    (fun os started H enc _ => lifted os started H enc)
end frameFnExactValidLedger
end Go.Proofs.Ytkcdemjflbnhbaa
