/- FnExactUpdateParity returns true for every input: no condition. -/
import Derived.Test.YtkdadaocbfbndaaUpdP
import Derived.Test.YtkdadaocbfbndaaOpen
namespace Go.Proofs.Ytkdadaocbfbndaa
set_option linter.unusedVariables false
open Go.ChangeShapes Go.WideShapes Go.ChangeAt Go.RowKit
theorem wf_i64 {x : Int} (h : (Lit.int .i64 x).wf = true) : -9223372036854775808 ≤ x ∧ x ≤ 9223372036854775807 := by
  simp [Lit.wf, IntKind.signed, IntKind.bits] at h
  exact h
theorem updR_is (p q : ByteArray) (x : Int) (b a : ByteArray) : ∃ r1 r2 r3, updR p q x b a = .tuple #[.string r1, .string r2, .int .i64 r3] := by
  unfold updR
  split
  · split
    · exact ⟨_, _, _, rfl⟩
    · exact ⟨_, _, _, rfl⟩
  · exact ⟨_, _, _, rfl⟩
set_option maxHeartbeats 1000000 in
theorem lUpd (p q : ByteArray) (x : Int) (b a : ByteArray) (w : World) (hx : (Lit.int .i64 x).wf = true) :
    Calls Try.prog 3 #[.string p, .string q, .int .i64 x, .string b, .string a] w fun e w' => e = .returned (.bool true) ∧ Below w.heap.size w w' := by
  have hx' : -9223372036854775808 ≤ x ∧ x ≤ 9223372036854775807 := wf_i64 hx
  by_cases h1 : p.size ≤ 1048576
  · by_cases h2 : q.size ≤ 1048576
    · by_cases h3 : b.size ≤ 1048576
      · by_cases h4 : a.size ≤ 1048576
        · obtain ⟨r1, r2, r3, hr⟩ := updR_is p q x b a
          have hi := fun w => update_i p q b a x w hx'
          have hs := fun w => update_s p q b a x w hx'
          rw [hr] at hi hs
          have HI := Lib.hid hi
          have HS := Lib.hid hs
          clear hi hs hr hx hx'
          go_enter Try.func3, Try.ntmps3
          go_wp2_with (first | (go_at_call 13; refine (HI.out _).mono ?_; rintro e w2 ⟨rfl, hb2⟩) | (go_at_call 12; refine (HS.out _).mono ?_; rintro e w1 ⟨rfl, hb1⟩))
          have z1 := hb1.size
          go_ret
          exact ⟨rfl, (by repeat (first | exact Below.refl _ _ | refine Below.alloc ?_ (by first | omega | (simp; done) | (simp; omega)) _ | apply Below.drew | apply below_drewN | refine Below.setCell ?_ (by first | omega | (simp; done) | (simp; omega)) _ | refine Below.trans ?_ (Below.mono (by assumption) (by first | omega | (simp; done) | (simp; omega)))))⟩
        · go_enter Try.func3, Try.ntmps3; go_wp2_with (fail); go_ret; exact ⟨rfl, Below.refl _ _⟩
      · go_enter Try.func3, Try.ntmps3; go_wp2_with (fail); go_ret; exact ⟨rfl, Below.refl _ _⟩
    · go_enter Try.func3, Try.ntmps3; go_wp2_with (fail); go_ret; exact ⟨rfl, Below.refl _ _⟩
  · go_enter Try.func3, Try.ntmps3; go_wp2_with (fail); go_ret; exact ⟨rfl, Below.refl _ _⟩
namespace frameFnExactUpdateParity
theorem own : ownKnob Try.prog.godebug = none := by kernel_rfl
theorem laidOut : laidOutB Try.prog = true := by kernel_rfl
set_option maxRecDepth 100000 in
theorem lifted (os : Os) (started : os.Started) (H : Type) (enc : TypeId × Value → H) :
    ReturnsInHanded {} Try.checked os 3 .any (Rows.fnExactUpdateParitySpec.pre6 enc Try.prog Try.f3 Rows.fnExactUpdateParityRow.domain false) (Rows.fnExactUpdateParitySpec.post enc Try.prog Try.f3 false true false false) := by
  refine returnsInHanded_of_change (C := Try.checked) own started (by kernel_rfl) Try.func3
    (ChangeSpec.witness6 (enc := enc) (C := Try.checked) false ⟨#[], #[.string .empty, .string .empty, .int .i64 0, .string .empty, .string .empty], []⟩ 8 (by kernel_rfl) (by kernel_rfl) (by kernel_rfl) (by kernel_rfl)) ?_
  intro W base args ds gs before hval0 hW hcnd _
  have hval : ∀ (j : Nat) t v, Try.f3.params[j]? = some t → args[j]? = some v → Value.okWide Try.prog W .any base t v := hval0
  have hW' := hW
  obtain ⟨p, q, hA0, hV, rfl, hfz, hnd⟩ := hW
  have hA : DataW.TrodAll enc Try.prog W 0 (fun _ => true) true Try.f3.params.toList args.toList ds p := hA0
  rw [Try.params3] at hA hval
  obtain ⟨v0, vs0, d0, ds0, p0, q0, hargs, rfl, rfl, h0, r0⟩ := trodAll_cons hA
  obtain ⟨v1, vs1, d1, ds1, p1, q1, rfl, rfl, rfl, h1, r1⟩ := trodAll_cons r0
  obtain ⟨v2, vs2, d2, ds2, p2, q2, rfl, rfl, rfl, h2, r2⟩ := trodAll_cons r1
  obtain ⟨v3, vs3, d3, ds3, p3, q3, rfl, rfl, rfl, h3, r3⟩ := trodAll_cons r2
  obtain ⟨v4, vs4, d4, ds4, p4, q4, rfl, rfl, rfl, h4, r4⟩ := trodAll_cons r3
  obtain ⟨rfl, rfl, rfl⟩ := trodAll_nil r4
  obtain rfl : args = #[v0, v1, v2, v3, v4] := by cases args; simp_all
  obtain ⟨rfl, rfl⟩ := trodVars_none hV
  have k0 := h0
  have lt0 : ∀ x ∈ p0, x.block < W.heap.size := by obtain ⟨m, hm⟩ := k0; exact DataW.trod_lt m _ _ _ hm
  have e0 := hval 0 9 v0 rfl rfl
  have k1 := h1
  have lt1 : ∀ x ∈ p1, x.block < W.heap.size := by obtain ⟨m, hm⟩ := k1; exact DataW.trod_lt m _ _ _ hm
  have e1 := hval 1 9 v1 rfl rfl
  have k2 := h2
  have lt2 : ∀ x ∈ p2, x.block < W.heap.size := by obtain ⟨m, hm⟩ := k2; exact DataW.trod_lt m _ _ _ hm
  have e2 := hval 2 2 v2 rfl rfl
  have k3 := h3
  have lt3 : ∀ x ∈ p3, x.block < W.heap.size := by obtain ⟨m, hm⟩ := k3; exact DataW.trod_lt m _ _ _ hm
  have e3 := hval 3 9 v3 rfl rfl
  have k4 := h4
  have lt4 : ∀ x ∈ p4, x.block < W.heap.size := by obtain ⟨m, hm⟩ := k4; exact DataW.trod_lt m _ _ _ hm
  have e4 := hval 4 9 v4 rfl rfl
  clear hA0 hval0 hval
  obtain ⟨p, rfl, m_p⟩ := o_str e0 h0
  obtain ⟨q, rfl, m_q⟩ := o_str e1 h1
  obtain ⟨x, rfl, m_x⟩ := o_i64 e2 h2
  obtain ⟨b, rfl, m_b⟩ := o_str e3 h3
  obtain ⟨a, rfl, m_a⟩ := o_str e4 h4
  refine (lUpd p q x b a W m_x).mono fun e W' ⟨he, bel⟩ => ?_
  subst he
  exact ⟨_, rfl, _, _, _, [], _, [], hW', trodAll_mk1 (shut_bool Try.underlying4 _), (trodAll_cons_mk (Below.trod laidOut (by kernel_rfl) (of_decide_eq_true (by kernel_rfl)) k0 bel lt0) (trodAll_cons_mk (Below.trod laidOut (by kernel_rfl) (of_decide_eq_true (by kernel_rfl)) k1 bel lt1) (trodAll_cons_mk (Below.trod laidOut (by kernel_rfl) (of_decide_eq_true (by kernel_rfl)) k2 bel lt2) (trodAll_cons_mk (Below.trod laidOut (by kernel_rfl) (of_decide_eq_true (by kernel_rfl)) k3 bel lt3) (trodAll_cons_mk (Below.trod laidOut (by kernel_rfl) (of_decide_eq_true (by kernel_rfl)) k4 bel lt4) trodAll_mk0))))), rfl, bel.frame _, fun h => by cases h⟩

theorem proved : Rows.FnExactUpdateParitySaid :=
  OpenClaim.holds_of_wide 3 Try.f3 rfl rfl rfl rfl rfl rfl rfl ⟨rfl, rfl, rfl, rfl, rfl⟩ rfl rfl rfl rfl rfl (by kernel_rfl) Try.func3 (by kernel_rfl)
    (of_decide_eq_true (by kernel_rfl)) (by unfold Func.isWrapper; first | (rw [if_pos (by decide +kernel)]; kernel_rfl) | (rw [if_neg (by decide +kernel)]; exact ⟨rfl, rfl⟩))
    (fun os started H enc _ => lifted os started H enc)
end frameFnExactUpdateParity
end Go.Proofs.Ytkdadaocbfbndaa
