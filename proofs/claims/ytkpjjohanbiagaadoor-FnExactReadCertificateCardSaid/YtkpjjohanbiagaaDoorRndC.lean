/- A drawn region within a round, one of whose loads need not come ahead of a row that the region lays: laws of no program. -/
import Derived.Test.YtkpjjohanbiagaaDoorRndB
import Derived.Stop.Looks
namespace Go.Proofs.YtkpjjohanbiagaaDoor
set_option linter.unusedVariables false
set_option linter.unusedSimpArgs false
open Go.RowKit
/-- where it comes to an end, the world is as it was -/
def SameW {α : Type} (x : Sem α) : Prop := ∀ (P : Program) (w : World) (a : α) (w' : World), x.run P w = .ok a w' → w' = w
theorem sameW_looks {α : Type} {x : Sem α} (h : x.Looks) : SameW x := fun _ _ _ _ e => h.ok e
theorem sameW_bind {α β : Type} {x : Sem α} {f : α → Sem β} (hx : SameW x) (hf : ∀ a, SameW (f a)) : SameW (x >>= f) := fun P w b w' h => by
  rw [Sem.run_bind] at h
  cases hr : x.run P w with
  | ok a w1 =>
    rw [hr] at h
    obtain rfl := hx P w a w1 hr
    exact hf a P _ b w' h
  | halt e w1 => rw [hr] at h; cases h
/-- never comes to an end -/
def NeverW {α : Type} (x : Sem α) : Prop := ∀ (P : Program) (w : World) (a : α) (w' : World), x.run P w ≠ .ok a w'
theorem neverW_bind {α β : Type} {x : Sem α} {f : α → Sem β} (hf : ∀ a, NeverW (f a)) : NeverW (x >>= f) := fun P w b w' h => by
  rw [Sem.run_bind] at h
  cases hr : x.run P w with
  | ok a w1 => rw [hr] at h; exact hf a P w1 b w' h
  | halt e w1 => rw [hr] at h; cases h
theorem neverW_halt {α : Type} (h : Halt) : NeverW (.halt h : Sem α) := fun _ _ _ _ e => by cases e
theorem NeverW.same {α : Type} {x : Sem α} (h : NeverW x) : SameW x := fun P w a w' e => absurd e (h P w a w')
theorem sureAddr_looks (v : Value) : (Instr.sureAddr v).Looks := by
  unfold Instr.sureAddr
  split
  · exact pure_looks _
  · exact stuck_looks _
theorem isAgg_looks (t : TypeId) : (isAgg t).Looks := by
  unfold isAgg
  refine Sem.Looks.bind (underlying_looks t) fun d => ?_
  split <;> exact pure_looks _
theorem loadVar_looks (t : TypeId) (a : Addr) : (loadVar t a).Looks := by
  unfold loadVar
  refine Sem.Looks.bind (isAgg_looks t) fun d => ?_
  split
  · exact Sem.Looks.bind (sizeOf_looks t) fun _ => Sem.Looks.bind (loadCells_looks _ _) fun _ => pure_looks _
  · exact load_looks _ _
theorem loadAt_looks (t : TypeId) (v : Value) : (Instr.loadAt t v).Looks := by
  unfold Instr.loadAt
  exact Sem.Looks.bind (sureAddr_looks v) fun a => loadVar_looks t a
theorem runtimePanic_bounds {α : Type} (x y : Int) (s : Bool) (c : BoundsCode) : NeverW (runtimePanic (.bounds x y s c) : Sem α) := by
  unfold runtimePanic
  exact neverW_bind fun p => neverW_halt _
theorem boundsPanic_never {α : Type} (k : IntKind) (x y : Int) (c : BoundsCode) : NeverW (boundsPanic k x y c : Sem α) := by
  unfold boundsPanic
  dsimp only
  split
  · exact neverW_bind fun s => runtimePanic_bounds _ _ _ _
  · exact neverW_bind fun s => runtimePanic_bounds _ _ _ _
theorem asIntOf_looks (v : Value) : (asIntOf v).Looks := by
  unfold asIntOf
  split <;> first | exact pure_looks _ | exact unsupported_looks _ | exact stuck_looks _
theorem zeroValue_looks (t : TypeId) : (zeroValue t).Looks := by
  unfold zeroValue
  refine Sem.Looks.bind (typeInfo_looks t) fun i => ?_
  split <;> first | exact pure_looks _ | exact unsupported_looks _
theorem amapM_looks {α β : Type} (f : α → Sem β) (hf : ∀ a, (f a).Looks) (l : Array α) : (l.mapM f).Looks := by
  rw [Array.mapM_eq_mapM_toList]
  exact Sem.Looks.bind (mapM_looks f hf l.toList) fun _ => pure_looks _
theorem indexAt_same (t : TypeId) (x i : Value) : SameW (Instr.indexAt t x i) := by
  unfold Instr.indexAt
  repeat' (first
    | exact sameW_looks (pure_looks _) | exact sameW_looks (stuck_looks _) | exact sameW_looks (unsupported_looks _) | exact sameW_looks (asIntOf_looks _) | exact sameW_looks (underlying_looks _)
    | exact sameW_looks (sizeOf_looks _) | exact sameW_looks (zeroValue_looks _) | exact sameW_looks (sureAddr_looks _) | exact (boundsPanic_never _ _ _ _).same
    | exact sameW_looks (amapM_looks _ (fun _ => Sem.Looks.bind (sizeOf_looks _) fun _ => pure_looks _) _)
    | (refine sameW_bind ?_ (fun _ => ?_))
    | split
    | dsimp only)
theorem build_same (t : TypeId) (ps : Array (Nat × Value)) : SameW (Instr.build t ps) := by
  unfold Instr.build
  repeat' (first
    | exact sameW_looks (pure_looks _) | exact sameW_looks (stuck_looks _) | exact sameW_looks (unsupported_looks _) | exact sameW_looks (asIntOf_looks _) | exact sameW_looks (underlying_looks _)
    | exact sameW_looks (sizeOf_looks _) | exact sameW_looks (zeroValue_looks _) | exact sameW_looks (sureAddr_looks _) | exact (boundsPanic_never _ _ _ _).same
    | exact sameW_looks (amapM_looks _ (fun _ => Sem.Looks.bind (sizeOf_looks _) fun _ => pure_looks _) _)
    | (refine sameW_bind ?_ (fun _ => ?_))
    | split
    | dsimp only)
/-- where it comes to an end it has laid one block -/
def NewW {α : Type} (x : Sem α) : Prop := ∀ (P : Program) (w : World) (a : α) (w' : World), x.run P w = .ok a w' → ∃ c, w' = w.alloc c
theorem newW_bind {α β : Type} {x : Sem α} {f : α → Sem β} (hx : SameW x) (hf : ∀ a, NewW (f a)) : NewW (x >>= f) := fun P w b w' h => by
  rw [Sem.run_bind] at h
  cases hr : x.run P w with
  | ok a w1 =>
    rw [hr] at h
    obtain rfl := hx P w a w1 hr
    exact hf a P _ b w' h
  | halt e w1 => rw [hr] at h; cases h
theorem NeverW.new {α : Type} {x : Sem α} (h : NeverW x) : NewW x := fun P w a w' e => absurd e (h P w a w')
theorem newRow_new (t : TypeId) (cs : Array Value) (f : Addr → Value) : NewW (do let r ← newRow t cs; pure (f r)) := fun P w a w' h => by
  rw [Sem.run_bind] at h
  have : (newRow t cs).run P w = .ok ⟨w.heap.size, 0, none⟩ (w.alloc (.cells cs t)) := by
    unfold newRow
    rw [Sem.run_bind]
    rfl
  rw [this] at h
  cases h
  exact ⟨_, rfl⟩
theorem buildSlice_new (t : TypeId) (n : Nat) (ps : Array (Nat × Value)) : NewW (Instr.buildSlice t n ps) := by
  unfold Instr.buildSlice
  repeat' (first
    | exact newRow_new _ _ (fun r => Value.slice (some r) _ _)
    | exact (neverW_halt _).new
    | exact NeverW.new (fun _ _ _ _ e => by cases e)
    | (refine newW_bind ?_ (fun _ => ?_))
    | exact sameW_looks (underlying_looks _)
    | exact sameW_looks (sizeOf_looks _)
    | exact sameW_looks (zeroValue_looks _)
    | exact sameW_looks (unsupported_looks _)
    | exact sameW_looks (stuck_looks _)
    | exact sameW_looks (pure_looks _)
    | split
    | dsimp only)
theorem value_run {s : Sem Value} {P : Program} {w w' : World} {n : Next} (hr : (do pure (Next.value (← s)) : Sem Next).run P w = .ok n w') : ∃ u, n = .value u ∧ s.run P w = .ok u w' := by
  rw [Sem.run_bind] at hr
  cases h : s.run P w with
  | ok u w1 => rw [h] at hr; cases hr; exact ⟨u, rfl, rfl⟩
  | halt e w1 => rw [h] at hr; cases hr
def calmB (o : Oper) : Bool := match o.op with
  | .move _ | .load _ _ | .indexAddr _ _ _ | .build _ _ | .buildSlice _ _ _ => true
  | _ => false
theorem calm_run {P : Program} {o : Oper} {ρ : Operand → Value} {w w' : World} {n : Next} (h : calmB o = true) (hr : (execOp ρ o).run P w = .ok n w') :
    (∃ u, n = .value u) ∧ (w' = w ∨ ∃ c, w' = w.alloc c) := by
  unfold execOp at hr
  unfold calmB at h
  split at h
  · rename_i x hx
    rw [hx] at hr
    cases hr
    exact ⟨⟨_, rfl⟩, .inl rfl⟩
  · rename_i t x hx
    rw [hx] at hr
    obtain ⟨u, rfl, h1⟩ := value_run hr
    exact ⟨⟨u, rfl⟩, .inl ((loadAt_looks _ _).ok h1)⟩
  · rename_i t x i hx
    rw [hx] at hr
    obtain ⟨u, rfl, h1⟩ := value_run hr
    exact ⟨⟨u, rfl⟩, .inl (indexAt_same _ _ _ _ _ _ _ h1)⟩
  · rename_i t ps hx
    rw [hx] at hr
    obtain ⟨u, rfl, h1⟩ := value_run hr
    exact ⟨⟨u, rfl⟩, .inl (build_same _ _ _ _ _ _ h1)⟩
  · rename_i t len ps hx
    rw [hx] at hr
    obtain ⟨u, rfl, h1⟩ := value_run hr
    exact ⟨⟨u, rfl⟩, .inr (buildSlice_new _ _ _ _ _ _ _ h1)⟩
  · cases h
section
variable {P : Program} {ops : Array Oper} {md : Region.Mode} {Q : Exit → Act → World → Prop}
/-- yields v at each world of a class -/
def YieldsC (P : Program) (ops : Array Oper) (S : World → Prop) (o : Oper) (v : Value) (a : Act) : Prop :=
  Region.wanted o (yielded ops a.tmps) = true ∧ ∀ w, S w → (execOp a.eval o).run P w = .ok (.value v) w
theorem YieldsC.wpOp {S : World → Prop} {i : Nat} {o : Oper} {v : Value} {a : Act} {w : World} (hi : ops[i]? = some o) (hy : YieldsC P ops S o v a) (hw : S w) {K : Act → World → Prop} (h : K (a.put o.dst v) w) : wpOp P ops Q i K a w := by
  unfold Go.wpOp
  simp only [hi, hy.1, if_true]
  refine .inl ?_
  unfold Oper.wp
  rw [hy.2 w hw]
  exact h
theorem YieldsC.of_same {S : World → Prop} {o : Oper} {v : Value} {a a' : Act} (hy : YieldsC P ops S o v a) (he : execOp a'.eval o = execOp a.eval o)
    (hw : Region.wanted o (yielded ops a'.tmps) = Region.wanted o (yielded ops a.tmps)) : YieldsC P ops S o v a' := by
  unfold YieldsC at *
  rw [he, hw]
  exact hy
theorem wpOp_putC {S : World → Prop} (hS : ∀ w c, S w → S (w.alloc c)) {j : Nat} {oi oj : Oper} {v : Value} (hj : ops[j]? = some oj) (hap : oi.apart ops oj = true) (hcalm : calmB oj = true)
    (hsi : ∀ cs b, oi.op ≠ .select cs b) (hsj : ∀ cs b, oj.op ≠ .select cs b)
    (hQ : ∀ c a w, Q (.panic c) (a.put oi.dst v) w → Q (.panic c) a w) {K : Act → World → Prop} {a : Act} {w : World} (hw : S w)
    (hy : YieldsC P ops S oi v a) (h : wpOp P ops Q j K (a.put oi.dst v) w) :
    wpOp P ops Q j (fun a' w' => (YieldsC P ops S oi v a' ∧ S w') ∧ K (a'.put oi.dst v) w') a w := by
  obtain ⟨h1, h2, h3⟩ := Oper.apart_spec hap
  have keep : ∀ (a : Act), YieldsC P ops S oi v a → ∀ u, YieldsC P ops S oi v (a.put oj.dst u) := fun a hy u =>
    hy.of_same (execOp_put oi hsi a oj.dst u h3) (wanted_put oi a oj.dst u h3)
  unfold Go.wpOp at *
  simp only [hj] at *
  rw [wanted_put oj a oi.dst v h1] at h
  split
  · rename_i hwt
    simp only [hwt, if_true] at h
    rcases h with h | ⟨hasks, hlets⟩
    case inr => exact .inr ⟨by unfold Oper.asks at *; rw [execOp_put oj hsj a oi.dst v h1] at hasks; exact hasks, hlets⟩
    refine .inl ?_
    unfold Oper.wp at *
    rw [execOp_put oj hsj a oi.dst v h1] at h
    cases hr : (execOp a.eval oj).run P w with
    | ok n w' =>
      rw [hr] at h
      obtain ⟨⟨u, rfl⟩, hw'⟩ := calm_run hcalm hr
      have hS' : S w' := by
        rcases hw' with rfl | ⟨c, rfl⟩
        · exact hw
        · exact hS w c hw
      simp only [Oper.upon] at h ⊢
      exact ⟨⟨keep a hy u, hS'⟩, by rw [← Act.put_comm a v u h2]; exact h⟩
    | halt x w' =>
      rw [hr] at h
      cases x <;> simp only [Oper.upon] at h ⊢
      case panic u => exact hQ _ _ _ h
  · rename_i hwt
    simp only [hwt] at h
    exact ⟨⟨keep a hy _, hw⟩, by rw [← Act.put_comm a v undef h2]; exact h⟩
/-- such an operation may be taken first, where whatever need not wait for it looks at memory or lays blocks -/
theorem wpAny_firstC {S : World → Prop} (hS : ∀ w c, S w → S (w.alloc c)) {i : Nat} {oi : Oper} {v : Value} (hi : ops[i]? = some oi) (hsel : ∀ (j : Nat) (o : Oper) cs b, ops[j]? = some o → o.op ≠ .select cs b)
    (hQ : ∀ c a w, Q (.panic c) (a.put oi.dst v) w → Q (.panic c) a w)
    (hfree : ∀ j oj, ops[j]? = some oj → j ≠ i → (∀ e ∈ oj.after, Region.binds md e = true → e.on ≠ i) → oi.apart ops oj = true ∧ calmB oj = true) :
    ∀ (fuel : Nat) (listed : Array Bool) (a : Act) (w : World), i ∈ Region.ready md ops listed → YieldsC P ops S oi v a → S w →
      wpAny P md ops Q fuel (listed.setIfInBounds i true) (a.put oi.dst v) w → wpAny P md ops Q (fuel + 1) listed a w := by
  intro fuel
  induction fuel with
  | zero =>
    intro listed a w hr hy hw H
    refine ⟨fun h => (by rw [h] at hr; cases hr), fun j hj => ?_⟩
    by_cases hji : j = i
    · subst hji; exact hy.wpOp hi hw H
    · have := ready_mono hj hji
      rw [H.1] at this
      cases this
  | succ fuel ih =>
    intro listed a w hr hy hw H
    refine ⟨fun h => (by rw [h] at hr; cases hr), fun j hj => ?_⟩
    by_cases hji : j = i
    · subst hji; exact hy.wpOp hi hw H
    · have h1 := H.2 j (ready_mono hj hji)
      obtain ⟨hjun, oj, hoj, hall⟩ := mem_ready.1 hj
      have hnot : ∀ e ∈ oj.after, Region.binds md e = true → e.on ≠ i := fun e he hb heq => by
        have h1 := hall e he hb
        rw [heq, getD_both (mem_ready.1 hr).1] at h1
        cases h1
      obtain ⟨f1, f2⟩ := hfree j oj hoj hji hnot
      refine wpOp_mono (fun a' w' h3 => ih (listed.setIfInBounds j true) a' w' (ready_mono hr (Ne.symm hji)) h3.1.1 h3.1.2 ?_)
        (wpOp_putC hS hoj f1 f2 (fun cs b => hsel i oi cs b hi) (fun cs b => hsel j oj cs b hoj) hQ hw hy h1)
      rw [Array.setIfInBounds_comm _ _ hji]
      exact h3.2
/-- whatever need not wait for i is apart from it, and calm -/
def freeC (md : Region.Mode) (ops : Array Oper) (i : Nat) : Bool :=
  match ops[i]? with
  | none => false
  | some oi => (List.range ops.size).all fun j => j == i || match ops[j]? with
      | some oj => oj.after.any (fun e => Region.binds md e && e.on == i) || (oi.apart ops oj && calmB oj)
      | none => true
theorem freeC_spec {i : Nat} {oi : Oper} (hi : ops[i]? = some oi) (h : freeC md ops i = true) (j : Nat) (oj : Oper) (hj : ops[j]? = some oj) (hne : j ≠ i)
    (hno : ∀ e ∈ oj.after, Region.binds md e = true → e.on ≠ i) : oi.apart ops oj = true ∧ calmB oj = true := by
  simp only [freeC, hi, List.all_eq_true, List.mem_range] at h
  have h1 := h j (Array.getElem?_eq_some_iff.1 hj).1
  simp only [hj, Bool.or_eq_true, beq_iff_eq, hne, false_or] at h1
  rcases h1 with h1 | h1
  · obtain ⟨e, he, hb⟩ := Array.any_eq_true'.1 h1
    simp only [Bool.and_eq_true, beq_iff_eq] at hb
    exact absurd hb.2 (hno e he hb.1)
  · simpa using h1
/-- the n-th operation waits for the i-th too -/
def addE (i : Nat) : Nat → List Oper → List Oper
  | _, [] => []
  | 0, o :: l => { o with after := o.after.push { on := i, ground := .data } } :: l
  | n + 1, o :: l => o :: addE i n l
theorem addE_len (i : Nat) : ∀ (n : Nat) (l : List Oper), (addE i n l).length = l.length
  | _, [] => by cases ‹Nat› <;> rfl
  | 0, o :: l => rfl
  | n + 1, o :: l => by simp [addE, addE_len i n l]
theorem addE_get (i : Nat) : ∀ (n : Nat) (l : List Oper) (j : Nat), (addE i n l)[j]? = l[j]? ∨ ∃ o, l[j]? = some o ∧ (addE i n l)[j]? = some { o with after := o.after.push { on := i, ground := .data } }
  | n, [], j => by cases n <;> exact .inl (by simp [addE])
  | 0, o :: l, 0 => .inr ⟨o, rfl, rfl⟩
  | 0, o :: l, j + 1 => .inl (by simp [addE])
  | n + 1, o :: l, 0 => .inl (by simp [addE])
  | n + 1, o :: l, j + 1 => by
    have := addE_get i n l j
    simpa [addE] using this
def noGuard (l : List Oper) : Bool := l.all fun o => o.guard.isNone
theorem noGuard_at {l : List Oper} (h : noGuard l = true) {j : Nat} {o : Oper} (ho : l[j]? = some o) (f : Nat → Option Bool) : Region.wanted o f = true := by
  have h1 := List.all_eq_true.1 h o (List.mem_of_getElem? ho)
  unfold Region.wanted
  cases hg : o.guard with
  | none => rfl
  | some g => rw [hg] at h1; cases h1
theorem ready_addE {i n : Nat} {l : List Oper} {listed : Array Bool} (hl : listed.getD i false = true) : Region.ready md (addE i n l).toArray listed = Region.ready md l.toArray listed := by
  unfold Region.ready
  simp only [List.size_toArray, addE_len, List.getElem?_toArray]
  congr 1
  funext j
  rcases addE_get i n l j with h | ⟨o, h1, h2⟩
  · rw [h]
  · rw [h1, h2]
    simp only [Option.map_some, Option.getD_some, Array.all_push, hl, Bool.or_true, Bool.and_true]
theorem wpOp_addE {i n j : Nat} {l : List Oper} (hg : noGuard l = true) {K : Act → World → Prop} {a : Act} {w : World} (h : wpOp P (addE i n l).toArray Q j K a w) : wpOp P l.toArray Q j K a w := by
  unfold Go.wpOp at *
  simp only [List.getElem?_toArray] at *
  rcases addE_get i n l j with h1 | ⟨o, h1, h2⟩
  · rw [h1] at h
    cases ho : l[j]? with
    | none => rw [ho] at h; exact h
    | some o =>
      rw [ho] at h
      simp only [noGuard_at hg ho, if_true] at h ⊢
      exact h
  · rw [h2] at h
    rw [h1]
    have hw : ∀ f, Region.wanted ({ o with after := o.after.push { on := i, ground := .data } } : Oper) f = true := fun f => noGuard_at hg h1 f
    simp only [noGuard_at hg h1, hw, if_true] at h ⊢
    exact h
theorem wpAny_addE {i n : Nat} {l : List Oper} (hg : noGuard l = true) : ∀ (fuel : Nat) (listed : Array Bool) (a : Act) (w : World), listed.getD i false = true →
    wpAny P md (addE i n l).toArray Q fuel listed a w → wpAny P md l.toArray Q fuel listed a w
  | 0, listed, a, w, hl, h => ⟨by rw [← ready_addE hl]; exact h.1, h.2⟩
  | fuel + 1, listed, a, w, hl, h => ⟨fun h0 => h.1 (by rw [ready_addE hl]; exact h0), fun j hj =>
      wpOp_mono (fun a' w' h' => wpAny_addE hg fuel _ a' w' (getD_set_true hl) h') (wpOp_addE hg (h.2 j (by rw [ready_addE hl]; exact hj)))⟩
def loadTailB (l : List Oper) (n : Nat) : Bool :=
  Region.noSelect l.toArray && Region.noSelect (addE 0 n l).toArray && decide (0 < n) && decide (n < l.length) && Region.sinkB .any (addE 0 n l).toArray n && Region.chainB .any (addE 0 n l).toArray n &&
  Region.lexHead .any (addE 0 n l).toArray (l.length - n) (n - 1) 1 ((Array.replicate l.length false).setIfInBounds 0 true) && freeC .any l.toArray 0 && (Region.ready .any l.toArray (Array.replicate l.length false)).contains 0 &&
  (Region.ready .any (addE 0 n l).toArray (Array.replicate l.length false)).contains 0 && noGuard l
/-- a region that draws its order, in a round: its first operation looks at memory and need not come ahead of the row that the n-th lays; the others ahead of that leave the world as it is, those behind come one behind the other -/
theorem region_round_load {l0 m : Nat} {id : Nat} {a : Act} {w : World} {l : List Oper} {o0 : Oper} {v : Value} (n : Nat) (S : World → Prop) (h0 : l[0]? = some o0) (hno : ¬ LetsOut Q) (hd : noDef l = true) (hm : P.follows .mixedOrders = true) (hB : loadTailB l n = true)
    (hQ : ∀ c a w, Q (.panic c) (a.put o0.dst v) w → Q (.panic c) a w) (hS : ∀ w c, S w → S (w.alloc c)) (hw : S w.drew) (hv : ∀ w, S w → (execOp a.eval o0).run P w = .ok (.value v) w)
    (h : ∀ w6, w6 = w.drew → wpStill P (addE 0 n l).toArray w6 (fun a' => wpList P (addE 0 n l).toArray Q ((addE 0 n l).drop n) a' w6) (((addE 0 n l).take n).drop 1) (a.put o0.dst v)) : (Code.region id l.toArray true).wpIn (Fence.wide.inRound l0) m P Q a w := by
  have h := h _ rfl
  simp only [loadTailB, Bool.and_eq_true, decide_eq_true_eq, List.contains_iff_mem] at hB
  obtain ⟨⟨⟨⟨⟨⟨⟨⟨⟨⟨hsel, hsel2⟩, hn0⟩, hn⟩, hs⟩, hc⟩, hlex⟩, hfr⟩, hr⟩, hr2⟩, hng⟩ := hB
  have hln := addE_len 0 n l
  have hn' : n < (addE 0 n l).toArray.size := by simpa [hln] using hn
  have hhd : (((addE 0 n l).take n).drop 1).length = n - 1 := by simp [hln]; omega
  have hdl : ((addE 0 n l).drop n).length = l.length - n := by simp [hln]
  have inv0 : HeadInv .any (addE 0 n l).toArray n (Array.replicate l.length false) :=
    ⟨by simp [hln], fun j oj _ hl => (by rw [getD_replicate_false] at hl; cases hl), fun t _ ht => getD_in (by simpa [hln] using ht) (getD_replicate_false _ _)⟩
  have H := wpAnyL_lex (md := .any) (g := l.length - n) hsel2 hs hc hn' (((addE 0 n l).take n).drop 1) 1 ((Array.replicate l.length false).setIfInBounds 0 true) _ (fun j hj => by
    rw [hhd] at hj
    have hj' : 1 + j < n := by omega
    rw [List.getElem?_drop, List.getElem?_take, if_pos hj', List.getElem?_toArray]) (by rw [hhd]; omega) (inv0.set hr2 hn0) (by rw [hhd]; exact hlex) h
  refine wpIn_region_any hm (any_round hno (noDef_at hd) _ _ _ _ ?_)
  obtain ⟨k, hk⟩ : ∃ k, l.toArray.size = k + 1 := ⟨l.length - 1, by simp; omega⟩
  have hk' : l.length = k + 1 := by simpa using hk
  rw [hk]
  refine wpAny_firstC (S := S) hS (i := 0) (by simpa using h0) (Region.noSelect_spec hsel) hQ (freeC_spec (by simpa using h0) hfr) k _ a _ (by rw [← hk']; exact hr) ⟨noGuard_at hng h0 _, hv⟩ hw ?_
  refine wpAny_addE (i := 0) (n := n) hng _ _ _ _ (by simp) ?_
  have := wpAny_of_head (Q' := Q) (g := l.length - n) (fun listed a' hL => by
    have := wpAny_of_seq (md := .any) (Q' := Q) ((addE 0 n l).drop n) n listed a' w.drew (fun j => by simp [List.getElem?_drop]) (by rw [hdl]; exact hL.1) hL.2
    rwa [hdl] at this) _ _ _ H
  rw [hhd, show n - 1 + (l.length - n) = k by omega] at this
  rw [← hk']
  exact this
end
end Go.Proofs.YtkpjjohanbiagaaDoor
