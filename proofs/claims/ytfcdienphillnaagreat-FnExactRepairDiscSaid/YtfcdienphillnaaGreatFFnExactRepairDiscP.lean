/- FnExactRepairDisc returns true for every input: no condition. -/
import Derived.Test.YtfcdienphillnaaGreatLr01
import Derived.Test.YtfcdienphillnaaGreatLr02
import Derived.Test.YtfcdienphillnaaGreatLr03
import Derived.Test.YtfcdienphillnaaGreatLr04
import Derived.Test.YtfcdienphillnaaGreatLr05
import Derived.Test.YtfcdienphillnaaGreatLr06
import Derived.Test.YtfcdienphillnaaGreatLr07
import Derived.Test.YtfcdienphillnaaGreatLr08
import Derived.Test.YtfcdienphillnaaGreatLr09
import Derived.Test.YtfcdienphillnaaGreatLr10
import Derived.Test.YtfcdienphillnaaGreatLr11
import Derived.Test.YtfcdienphillnaaGreatLr12
import Derived.Test.YtfcdienphillnaaGreatLr13
import Derived.Test.YtfcdienphillnaaGreatLr14
import Derived.Test.YtfcdienphillnaaGreatLr15
import Derived.Test.YtfcdienphillnaaGreatLr16
import Derived.Test.YtfcdienphillnaaGreatLr17
import Derived.Test.YtfcdienphillnaaGreatLr18
import Derived.Test.YtfcdienphillnaaGreatLr19
import Derived.Test.YtfcdienphillnaaGreatLr20
import Derived.Test.YtfcdienphillnaaGreatLr21
import Derived.Test.YtfcdienphillnaaGreatLr22
import Derived.Test.YtfcdienphillnaaGreatLr23
import Derived.Test.YtfcdienphillnaaGreatLr24
import Derived.Test.YtfcdienphillnaaGreatLr25
import Derived.Test.YtfcdienphillnaaGreatLr26
import Derived.Test.YtfcdienphillnaaGreatLr27
import Derived.Test.YtfcdienphillnaaGreatLr28
import Derived.Test.YtfcdienphillnaaGreatLr29
import Derived.Test.YtfcdienphillnaaGreatLr30
import Derived.Test.YtfcdienphillnaaGreatLr31
import Derived.Test.YtfcdienphillnaaGreatLr32
import Derived.Test.YtfcdienphillnaaGreatLr33
import Derived.Test.YtfcdienphillnaaGreatLr34
import Derived.Test.YtfcdienphillnaaGreatLr35
import Derived.Test.YtfcdienphillnaaGreatLr36
import Derived.Test.YtfcdienphillnaaGreatLr37
import Derived.Test.YtfcdienphillnaaGreatLr38
import Derived.Test.YtfcdienphillnaaGreatLr39
import Derived.Test.YtfcdienphillnaaGreatLr40
import Derived.Test.YtfcdienphillnaaGreatLr42
import Derived.Test.YtfcdienphillnaaGreatLr43
import Derived.Test.YtfcdienphillnaaGreatRx01
import Derived.Test.YtfcdienphillnaaGreatRx02
import Derived.Test.YtfcdienphillnaaGreatRx03
namespace Go.Proofs.YtfcdienphillnaaGreat
set_option linter.unusedVariables false
set_option linter.unusedSimpArgs false
open Go.ChangeShapes Go.WideShapes Go.ChangeAt Go.RowKit
set_option maxRecDepth 20000
namespace frameFnExactRepairDisc
theorem own : ownKnob Tryz.prog.godebug = none := by kernel_rfl
theorem laidOut : laidOutB Tryz.prog = true := by kernel_rfl
set_option maxRecDepth 100000 in
theorem lifted (os : Os) (started : os.Started) (H : Type) (enc : TypeId × Value → H) :
    ReturnsInHanded {} Tryz.checked os 6 .any (Rows.fnExactRepairDiscSpec.pre6 enc Tryz.prog Tryz.f6 Rows.fnExactRepairDiscRow.domain false) (Rows.fnExactRepairDiscSpec.post enc Tryz.prog Tryz.f6 false true false false) := by
  refine returnsInHanded_of_change (C := Tryz.checked) own started (by kernel_rfl) Tryz.func6
    (ChangeSpec.witness6 (enc := enc) (C := Tryz.checked) false ⟨#[], #[.agg #[.slice none 0 0, .slice none 0 0, .slice none 0 0, .slice none 0 0]], []⟩ 8 (by kernel_rfl) (by kernel_rfl) (by kernel_rfl) (by kernel_rfl)) ?_
  intro W base args ds gs before hval0 hW hcnd _
  have hval : ∀ (j : Nat) t v, Tryz.f6.params[j]? = some t → args[j]? = some v → Value.okWide Tryz.prog W .any base t v := hval0
  have hW' := hW
  obtain ⟨p, q, hA0, hV, rfl, hfz, hnd⟩ := hW
  have hA : DataW.TrodAll enc Tryz.prog W 0 (fun _ => true) true Tryz.f6.params.toList args.toList ds p := hA0
  rw [Tryz.params6] at hA hval
  obtain ⟨v0, vs0, d0, ds0, p0, q0, hargs, rfl, rfl, h0, r0⟩ := trodAll_cons hA
  obtain ⟨rfl, rfl, rfl⟩ := trodAll_nil r0
  obtain rfl : args = #[v0] := by cases args; simp_all
  obtain ⟨rfl, rfl⟩ := trodVars_none hV
  have k0 := h0
  have lt0 : ∀ x ∈ p0, x.block < W.heap.size := by obtain ⟨m, hm⟩ := k0; exact DataW.trod_lt m _ _ _ hm
  have e0 := hval 0 26 v0 rfl rfl
  clear hA0 hval0 hval
  obtain ⟨m, v0, v1, v2, v3, rfl, r_m⟩ := o_Evd e0 h0
  refine (walkFnExactRepairDisc m W r_m).mono fun e W' ⟨he, bel⟩ => ?_
  subst he
  exact ⟨_, rfl, _, _, _, [], _, [], hW', trodAll_mk1 (shut_bool Tryz.underlying4 _), (trodAll_cons_mk (Below.trod laidOut (by kernel_rfl) (of_decide_eq_true (by kernel_rfl)) k0 bel lt0) trodAll_mk0), rfl, bel.frame _, fun h => by cases h⟩

theorem proved : Rows.FnExactRepairDiscSaid :=
  OpenClaim.holds_of_wide 6 Tryz.f6 rfl rfl rfl rfl rfl rfl rfl ⟨rfl, rfl, rfl, rfl, rfl⟩ rfl rfl rfl rfl rfl (by kernel_rfl) Tryz.func6 (by kernel_rfl)
    (of_decide_eq_true (by kernel_rfl)) (by unfold Func.isWrapper; first | (rw [if_pos (by decide +kernel)]; kernel_rfl) | (rw [if_neg (by decide +kernel)]; exact ⟨rfl, rfl⟩))
    (fun os started H enc _ => lifted os started H enc)
end frameFnExactRepairDisc
end Go.Proofs.YtfcdienphillnaaGreat
