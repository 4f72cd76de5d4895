/- The worlds of a repair: what the walks keep. The worlds of a draw of a disc. A disc of few sectors drawn: the walk. -/
import Derived.Test.YtddihmpiaemadaaGreatDoorFc29
import Derived.Test.YtddihmpiaemadaaGreatDoorFc18
import Derived.Test.YtddihmpiaemadaaGreatDoorFc26
namespace Go.Proofs.YtddihmpiaemadaaGreatDoor
set_option linter.unusedVariables false
set_option linter.unusedSimpArgs false
open Go.RowKit
/-- the order of the blocks -/
structure RepO (w : World) (be b g bd bc K : Nat) : Prop where
  o0 : be ≤ b
  o1 : w.heap.size ≤ b
  o2 : b + 1 < g
  o3 : g ≠ bd
  o3b : b + 1 < bd
  o4 : bd < bc
  o4g : g < bc
  o5 : bd < K
  o5g : g < K
structure RepW (w : World) (be : Nat) (E4 D5 : List Value) (b g bd bc K N c : Nat) (wr : World) (vs : Value) (S : List Sec) (X : List Src) : Prop where
  bw : Below w.heap.size w wr
  re : Row wr be E4
  r2 : Row wr b [.int .i64 0, .int .i64 0, .int .i64 0, .int .i64 0, .slice none 0 0]
  f2 : ∀ o, wr.frozen? ⟨b, o, none⟩ = false
  r3 : Row wr (b + 1) [.slice none 0 0]
  f3 : ∀ o, wr.frozen? ⟨b + 1, o, none⟩ = false
  rd : Row wr bd D5
  rc : Row wr bc [vs]
  fc : ∀ o, wr.frozen? ⟨bc, o, none⟩ = false
  sec : SecOwn w.heap.size wr (.slice (some ⟨g, 0, none⟩) N c) S
  src : OwnL Src.cells 3 49 K wr vs X
  hne : vs.ownBlock ≠ some bc
  lt : bc < wr.heap.size
section
variable {w wr w' : World} {be b g bd bc K N c : Nat} {E4 D5 : List Value} {vs v' : Value} {S S' : List Sec} {X X' : List Src}
theorem RepW.below (h : RepW w be E4 D5 b g bd bc K N c wr vs S X) (o : RepO w be b g bd bc K) (hb : Below wr.heap.size wr w') : RepW w be E4 D5 b g bd bc K N c w' vs S X := by
  obtain ⟨o0, o1, o2, o3, o3b, o4, o4g, o5, o5g⟩ := o
  have l := h.lt
  exact ⟨h.bw.trans (hb.mono h.bw.size), h.re.below hb (by omega), h.r2.below hb (by omega), frozen_below h.f2 hb (by omega), h.r3.below hb (by omega), frozen_below h.f3 hb (by omega), h.rd.below hb (by omega), h.rc.below hb (by omega), frozen_below h.fc hb (by omega), OwnL.below h.sec hb, OwnL.below h.src hb, h.hne, by have := hb.size; omega⟩
theorem RepW.grown (h : RepW w be E4 D5 b g bd bc K N c wr vs S X) (o : RepO w be b g bd bc K) (hg : wr.grownBy w' (some g)) (hs : SecOwn w.heap.size w' (.slice (some ⟨g, 0, none⟩) N c) S') : RepW w be E4 D5 b g bd bc K N c w' vs S' X := by
  obtain ⟨o0, o1, o2, o3, o3b, o4, o4g, o5, o5g⟩ := o
  have l := h.lt
  have ne : ∀ k, k ≠ g → (some g : Option Nat) ≠ some k := fun k hk e => by injection e with e; exact hk e.symm
  exact ⟨h.bw.grown hg (by omega) (fun k hk => by injection hk with hk; omega), grown_row hg (by omega) (ne _ (by omega)) h.re, grown_row hg (by omega) (ne _ (by omega)) h.r2, grown_frozen hg (by omega) (ne _ (by omega)) h.f2, grown_row hg (by omega) (ne _ (by omega)) h.r3, grown_frozen hg (by omega) (ne _ (by omega)) h.f3, grown_row hg (by omega) (ne _ (by omega)) h.rd, grown_row hg (by omega) (ne _ (by omega)) h.rc, grown_frozen hg (by omega) (ne _ (by omega)) h.fc, hs, OwnL.kept h.src hg (.inr (own_far h.src (by omega))), h.hne, by have := hg.size; omega⟩
theorem RepW.setS (h : RepW w be E4 D5 b g bd bc K N c wr vs S X) (o : RepO w be b g bd bc K) (hn : S.length = N) {k : Nat} (hk : k < N) (s : Sec) :
    RepW w be E4 D5 b g bd bc K N c ((wr.setCell ⟨g, k * 2, none⟩ (.string s.data)).setCell ⟨g, k * 2 + 1, none⟩ (.int .i64 s.state)) vs (S.set k s) X :=
  h.grown o (gset (gset (World.grownBy.refl wr (some g)) _ _) _ _) (secs_set h.sec hn hk s)
theorem RepW.app (h : RepW w be E4 D5 b g bd bc K N c wr vs S X) (o : RepO w be b g bd bc K) (hg : wr.grownBy w' vs.ownBlock) (hs : OwnL Src.cells 3 49 K w' v' X') (hn : v'.ownBlock ≠ some bc) : RepW w be E4 D5 b g bd bc K N c (w'.setCell ⟨bc, 0, none⟩ v') v' S X' := by
  obtain ⟨o0, o1, o2, o3, o3b, o4, o4g, o5, o5g⟩ := o
  have l := h.lt
  have lK : ∀ k, vs.ownBlock = some k → K ≤ k := fun k hk => (World.ownsRow.lt h.src k hk).1
  have ne : ∀ k, k < K → vs.ownBlock ≠ some k := fun k hk e => by have := lK k e; omega
  have hz := hg.size
  exact ⟨Below.setCell (h.bw.grown hg (by omega) (fun k hk => by have := lK k hk; omega)) (by show w.heap.size ≤ bc; omega) _,
    (grown_row hg (by omega) (ne _ (by omega)) h.re).set_other _ (by omega),
    (grown_row hg (by omega) (ne _ (by omega)) h.r2).set_other _ (by omega),
    fun o => by rw [setCell_frozen]; exact grown_frozen hg (by omega) (ne _ (by omega)) h.f2 o,
    (grown_row hg (by omega) (ne _ (by omega)) h.r3).set_other _ (by omega),
    fun o => by rw [setCell_frozen]; exact grown_frozen hg (by omega) (ne _ (by omega)) h.f3 o,
    (grown_row hg (by omega) (ne _ (by omega)) h.rd).set_other _ (by omega),
    (grown_row hg (by omega) h.hne h.rc).set v' (by simp),
    fun o => by rw [setCell_frozen]; exact grown_frozen hg (by omega) h.hne h.fc o,
    OwnL.kept (OwnL.kept h.sec hg (.inr (fun e => ne g (by omega) e.symm))) (gset (World.grownBy.refl w' (some bc)) _ _) (.inr (fun e => by have e2 : some g = some bc := e; injection e2 with e2; omega)),
    OwnL.kept hs (gset (World.grownBy.refl w' (some bc)) _ _) (.inr hn), hn, by rw [setCell_size]; omega⟩
end
theorem rpX_len {e : Evd} (n : Nat) : (rpX e n).length ≤ n := by
  unfold rpX; exact Nat.le_trans (List.length_filterMap_le _ _) (by simp)
theorem rpPS_len {e : Evd} {z : Sec} {P : Nat} (t : Nat) : (rpPS e z P t).length ≤ P := by
  unfold rpPS
  split
  · rw [List.length_map]; exact flt_len _ _
  · simp
theorem rpXT_len {e : Evd} {z : Sec} {P N : Nat} (t : Nat) : (rpXT e z P N t).length ≤ N + t * P := by
  unfold rpXT
  rw [List.length_append]
  have h1 := rpX_len (e := e) N
  have h2 : ((List.range t).flatMap (rpPS e z P)).length ≤ t * P := by
    induction t with
    | zero => simp
    | succ t ih =>
      rw [List.range_succ, List.flatMap_append, List.length_append, Nat.add_mul]
      have := rpPS_len (e := e) (z := z) (P := P) t
      simp only [List.flatMap_cons, List.flatMap_nil, List.append_nil]
      omega
  omega
theorem rpXT_zero {e : Evd} {z : Sec} {P N : Nat} : rpXT e z P N 0 = rpX e N := by unfold rpXT; simp
theorem nob_at {v v' : Value} {b n : Nat} (h : v'.ownBlock = v.ownBlock ∨ v'.ownBlock = some n) (h1 : v.ownBlock ≠ some b) (h2 : b < n) : v'.ownBlock ≠ some b := by
  rcases h with h | h
  · rw [h]; exact h1
  · rw [h]; intro e; injection e with e; omega
theorem own_slice {α : Type} {f : α → List Value} {z : Nat} {T : TypeId} {B : Nat} {w : World} {v : Value} {l : List α} (h : OwnL f z T B w v l) : ∃ A n k, v = .slice A n k := by
  obtain ⟨A, c, h, _⟩ := OwnL.shape h
  exact ⟨A, _, c, h⟩
/-- append of all of an owned list, at a step of a region that draws -/
theorem step_appAll {P : Program} {α : Type} (f : α → List Value) (z : Nat) (hf : ∀ a, (f a).length = z) (w : World) {ops : Array Oper} {o : Oper} {a : Act} {K : Act → World → Prop} {Q : Exit → Act → World → Prop} {E : Prop} (hgd : o.guard = none) (s x : Operand) (t : TypeId)
    (ho : o.op = .call { callee := .builtin .append, args := #[s, x], argTypes := #[t, t] })
    (B B' : Nat) (e e' : TypeId) (i : TypeInfo) (zv : Value) (bytes : Nat) (ht : P.underlying t = some (.slice e)) (hi : P.info? e = some i) (hz : i.zero = some zv)
    (hsize : i.size = z) (hby : i.bytes = bytes) (hzs : zv.cells.size = z) (hsz : 0 < z)
    (v : Value) (l : List α) (hs : a.eval s = v) (hown : OwnL f z e B w v l)
    (vx : Value) (lx : List α) (hx : a.eval x = vx) (hownx : OwnL f z e' B' w vx lx) (h1 : ∀ b, ∀ u ∈ f b, u.oneCell' = true)
    (hn : l.length + lx.length ≤ 16777216) (hbytes : bytes ≤ 4096) (hbase : B ≤ w.heap.size)
    (h : ∀ v' w', OwnL f z e B w' v' (l ++ lx) → w.grownBy w' v.ownBlock → (v'.ownBlock = v.ownBlock ∨ v'.ownBlock = some w.heap.size) → K (a.put o.dst v') w') :
    if Region.wanted o (yielded ops a.tmps) = true then Oper.wp P o a w K Q else E := by
  have hw : Region.wanted o (yielded ops a.tmps) = true := by unfold Region.wanted; rw [hgd]
  rw [if_pos hw]
  rcases hownx.2 with ⟨rfl, hl0⟩ | ⟨g, cap, cur, rfl, _, hh, hnc, _, hcs, htk⟩
  · obtain rfl : lx = [] := List.eq_nil_of_length_eq_zero hl0
    have hrun := run_append_owned_none (P := P) (w := w) B t o.type e i z ht hi v l.length (flat f l) hown
    unfold Oper.wp
    simp [execOp, ho, resolve, invoke, builtin, hs, hx, hrun, Result.andThen]
    exact h v w (by simpa using hown) (World.grownBy.refl w _) (.inl rfl)
  · have hbb : (l.length + lx.length) * bytes ≤ 140737488355328 := by
      have : (l.length + lx.length) * bytes ≤ 16777216 * 4096 := Nat.mul_le_mul hn hbytes
      omega
    obtain ⟨v', w', hr, h2, h3, _, h5⟩ := run_append_own_at (P := P) w B t o.type e i zv z bytes ht hi hz hsize hby hzs hsz v l.length (flat f l) hown ⟨g, 0, none⟩ lx.length cap (flat f lx) (flat_len hf lx) (hownx.cells (g := g) rfl) (fun u hu => by
      obtain ⟨b, _, hb⟩ := List.mem_flatMap.1 hu
      exact h1 b u hb) (by unfold maxLen; omega) hbb hbase
    unfold Oper.wp execOp
    simp only [ho, resolve, invoke, builtin, Sem.run_bind, Sem.run_pure, Result.andThen_ok, List.map_toArray, List.map_cons, List.map_nil, hs, hx, hr]
    refine h v' w' ?_ h3 h5
    unfold OwnL
    rw [flat_app, List.length_append]
    exact h2
theorem ev_pq {e : Evd} {z : Dsc} {P m T t : Nat} (F : EvF e z P m T) (ht : t < T) : ∃ pt qt, e.p[t]? = some pt ∧ e.q[t]? = some qt ∧ pt.size ≤ 1048576 ∧ qt.size ≤ 1048576 := by
  have h1 := F.pl
  have h2 := F.ql
  have h3 := F.m2
  obtain ⟨pt, hp⟩ : ∃ pt, e.p[t]? = some pt := ⟨e.p[t]'(by omega), List.getElem?_eq_getElem (by omega)⟩
  obtain ⟨qt, hq⟩ : ∃ qt, e.q[t]? = some qt := ⟨e.q[t]'(by omega), List.getElem?_eq_getElem (by omega)⟩
  refine ⟨pt, qt, hp, hq, ?_, ?_⟩
  · rcases F.ps pt (List.mem_of_getElem? hp) with h | h <;> omega
  · rcases F.qs qt (List.mem_of_getElem? hq) with h | h <;> omega
end Go.Proofs.YtddihmpiaemadaaGreatDoor
namespace Go.Proofs.YtddihmpiaemadaaGreatDoor
set_option linter.unusedVariables false
set_option linter.unusedSimpArgs false
open Go.RowKit
theorem Row.chgIn {w w' : World} {b B E : Nat} {us : List Value} (h : Row w b us) (hc : Chg B E w w') (hl : b < w.heap.size) (hd : b < B ∨ E ≤ b) : Row w' b us := fun j u hu => (World.cell?_of_block (a := ⟨b, j, none⟩) (hc.block b hl (by omega))).trans (h j u hu)
theorem frozen_chg {w w' : World} {b B E : Nat} {v : Bool} (h : ∀ o, w.frozen? ⟨b, o, none⟩ = v) (hc : Chg B E w w') (hl : b < w.heap.size) (hd : b < B ∨ E ≤ b) : ∀ o, w'.frozen? ⟨b, o, none⟩ = v := fun o => (World.frozen?_of_block (a := ⟨b, o, none⟩) (hc.block b hl (by omega))).trans (h o)
theorem Chg.setNew {B E b o : Nat} {w W : World} (h : Chg B E w W) (hb : w.heap.size ≤ b) (u : Value) : Chg B E w (W.setCell ⟨b, o, none⟩ u) :=
  ⟨h.os, h.tape, h.output, by simpa using h.size, fun k hk hne => (Below.heap_setCell W ⟨b, o, none⟩ u k (by intro e; have e' : k = b := e; omega)).trans (h.block k hk hne)⟩
theorem DrAt.setNew {w : World} {g b o : Nat} {A : Option Addr} {n c a : Nat} (h : DrAt w g A n c a) (hb : g < b) (u : Value) : DrAt (w.setCell ⟨b, o, none⟩ u) g A n c a :=
  h.keep (fun k hk => Below.heap_setCell w ⟨b, o, none⟩ u k (by intro e; have e' : k = b := e; omega)) (by simp)
/-- a disc drawn from the source in block g: its box bd, the result's box b -/
structure DrW (g : Nat) (w : World) (b bd : Nat) (D5 : List Value) (x : Value) (wx : World) (S : List Sec) : Prop where
  ch : Chg g (g + 1) w wx
  r2 : Row wx b [.int .i64 0, .int .i64 0, .int .i64 0, .int .i64 0, .slice none 0 0]
  f2 : ∀ o, wx.frozen? ⟨b, o, none⟩ = false
  rd : Row wx bd D5
  fd : ∀ o, wx.frozen? ⟨bd, o, none⟩ = false
  sec : SecOwn w.heap.size wx x S
  hb : x.ownBlock ≠ some b
  hd : x.ownBlock ≠ some bd
  o1 : w.heap.size ≤ b
  o2 : b ≠ bd
  o3 : w.heap.size ≤ bd
  l1 : b < wx.heap.size
  l2 : bd < wx.heap.size
  og : g < w.heap.size
section
variable {g b bd N c k : Nat} {w wx w' : World} {D5 : List Value} {x : Value} {A : Option Addr} {S : List Sec}
theorem DrW.below (h : DrW g w b bd D5 x wx S) (hw : Below wx.heap.size wx w') : DrW g w b bd D5 x w' S := by
  obtain ⟨ch, r2, f2, rd, fd, sec, hb, hd, o1, o2, o3, l1, l2, og⟩ := h
  exact ⟨ch.belowK hw ch.size, r2.below hw l1, frozen_below f2 hw l1, rd.below hw l2, frozen_below fd hw l2, OwnL.below sec hw, hb, hd, o1, o2, o3, Nat.lt_of_lt_of_le l1 hw.size, Nat.lt_of_lt_of_le l2 hw.size, og⟩
theorem DrW.chg (h : DrW g w b bd D5 x wx S) (hc : Chg g (g + 1) wx w') : DrW g w b bd D5 x w' S := by
  obtain ⟨ch, r2, f2, rd, fd, sec, hb, hd, o1, o2, o3, l1, l2, og⟩ := h
  exact ⟨ch.trans hc, r2.chgIn hc l1 (.inr (by omega)), frozen_chg f2 hc l1 (.inr (by omega)), rd.chgIn hc l2 (.inr (by omega)), frozen_chg fd hc l2 (.inr (by omega)), OwnL.blk sec (fun q hq => by have := World.ownsRow.lt sec q hq; exact hc.block q this.2 (by omega)), hb, hd, o1, o2, o3, Nat.lt_of_lt_of_le l1 hc.size, Nat.lt_of_lt_of_le l2 hc.size, og⟩
theorem DrW.grow (h : DrW g w b bd D5 x wx S) {row : Option Nat} (hg : wx.grownBy w' row) (hr : ∀ q, row = some q → w.heap.size ≤ q ∧ q ≠ b ∧ q ≠ bd) {S' : List Sec} (hs : SecOwn w.heap.size w' x S') : DrW g w b bd D5 x w' S' := by
  obtain ⟨ch, r2, f2, rd, fd, sec, hb, hd, o1, o2, o3, l1, l2, og⟩ := h
  exact ⟨ch.grown hg (fun q hq => (hr q hq).1), grown_row hg l1 (fun e => (hr b e).2.1 rfl) r2, grown_frozen hg l1 (fun e => (hr b e).2.1 rfl) f2, grown_row hg l2 (fun e => (hr bd e).2.2 rfl) rd, grown_frozen hg l2 (fun e => (hr bd e).2.2 rfl) fd, hs, hb, hd, o1, o2, o3, Nat.lt_of_lt_of_le l1 hg.size, Nat.lt_of_lt_of_le l2 hg.size, og⟩
end
theorem put_fst {xs : List Value} {o : Nat} {a b : Value} (h : xs[o + 1]? = some b) : putAt xs o [a] = putAt xs o [a, b] := by
  have hl := (List.getElem?_eq_some_iff.1 h).1
  unfold putAt
  simp only [List.length_cons, List.length_nil]
  have e : xs.drop (o + (0 + 1)) = b :: xs.drop (o + (0 + 1 + 1)) := by
    rw [List.drop_eq_getElem_cons (by omega)]
    have e2 : xs[o + (0 + 1)]'(by omega) = b := by
      have := (List.getElem?_eq_some_iff.1 h).2
      simpa using this
    rw [e2]
  rw [e]; simp
theorem put_snd {xs : List Value} {o : Nat} {a b : Value} (h : xs[o]? = some a) : putAt xs (o + 1) [b] = putAt xs o [a, b] := by
  have hl := (List.getElem?_eq_some_iff.1 h).1
  unfold putAt
  rw [List.take_add_one, h]
  simp [Nat.add_assoc]
theorem secs_data {B g n c : Nat} {w : World} {l : List Sec} (h : SecOwn B w (.slice (some ⟨g, 0, none⟩) n c) l) (hn : l.length = n) {k : Nat} {s : Sec} (hs : l[k]? = some s) (d : ByteArray) :
    SecOwn B (w.setCell ⟨g, k * 2, none⟩ (.string d)) (.slice (some ⟨g, 0, none⟩) n c) (l.set k ⟨d, s.state⟩) := by
  subst hn
  have hk := (List.getElem?_eq_some_iff.1 hs).1
  have h1 := own_first (o := k * 2) h (.string d) (by rw [flat_len Sec.len]; omega)
  rw [put_fst (flat_get Sec.len hs (j := 1) (by decide)), show ([.string d, .int .i64 s.state] : List Value) = Sec.cells ⟨d, s.state⟩ from rfl, flat_put Sec.len l k _ hk] at h1
  unfold SecOwn OwnL
  rw [List.length_set]
  exact h1
theorem secs_state {B g n c : Nat} {w : World} {l : List Sec} (h : SecOwn B w (.slice (some ⟨g, 0, none⟩) n c) l) (hn : l.length = n) {k : Nat} {s : Sec} (hs : l[k]? = some s) (t : Int) :
    SecOwn B (w.setCell ⟨g, k * 2 + 1, none⟩ (.int .i64 t)) (.slice (some ⟨g, 0, none⟩) n c) (l.set k ⟨s.data, t⟩) := by
  subst hn
  have hk := (List.getElem?_eq_some_iff.1 hs).1
  have h1 := own_first (o := k * 2 + 1) h (.int .i64 t) (by rw [flat_len Sec.len]; omega)
  have h0 : (flat Sec.cells l)[k * 2]? = some (.string s.data) := flat_get Sec.len hs (j := 0) (by decide)
  rw [put_snd h0, show ([.string s.data, .int .i64 t] : List Value) = Sec.cells ⟨s.data, t⟩ from rfl, flat_put Sec.len l k _ hk] at h1
  unfold SecOwn OwnL
  rw [List.length_set]
  exact h1
end Go.Proofs.YtddihmpiaemadaaGreatDoor
namespace Go.Proofs.YtddihmpiaemadaaGreatDoor
set_option linter.unusedVariables false
set_option linter.unusedSimpArgs false
open Go.RowKit
/-- a disc as the reference draws it -/
structure DrcOk (d : Dsc) : Prop where
  geo : ∃ c h p s : Nat, d.cyl = c ∧ d.heads = h ∧ d.per = p ∧ d.size = s ∧ 1 ≤ c ∧ c ≤ 3 ∧ 1 ≤ h ∧ h ≤ 2 ∧ 1 ≤ p ∧ p ≤ 5 ∧ s ≤ 2 ∧ d.secs.length = c * h * p
  dat : ∀ s ∈ d.secs, s.data.size = szN d.size
set_option maxRecDepth 20000 in
set_option maxHeartbeats 8000000 in
theorem small_s (g : Nat) (A : Option Addr) (n c a : Nat) (w : World) (h : DrAt w g A n c a) (hn : n ≤ 1048576) (ha : a ≤ 536870912) :
    Calls Tryz.prog 73 #[.pointer (some ⟨g, 0, none⟩)] w fun e w' => ∃ (d : Dsc) (x : Value) (a' : Nat), e = .returned (dscV d x) ∧ SecOwn w.heap.size w' x d.secs ∧ DrcOk d ∧ a' ≤ a + 4096 ∧ DrAt w' g A n c a' ∧ Chg g (g + 1) w w' := by
  have hg := h.lt
  have D0 := h.alloc (.cells #[.int .i64 0, .int .i64 0, .int .i64 0, .int .i64 0, .slice none 0 0] 32)
  have C0 : Chg g (g + 1) w (w.alloc (.cells #[.int .i64 0, .int .i64 0, .int .i64 0, .int .i64 0, .slice none 0 0] 32)) := (Chg.of_below (Below.refl _ _)).alloc _
  have R0 : Row (w.alloc (.cells #[.int .i64 0, .int .i64 0, .int .i64 0, .int .i64 0, .slice none 0 0] 32)) w.heap.size [.int .i64 0, .int .i64 0, .int .i64 0, .int .i64 0, .slice none 0 0] := Row.alloc w _ _
  have F0 : ∀ o, ((w.alloc (.cells #[.int .i64 0, .int .i64 0, .int .i64 0, .int .i64 0, .slice none 0 0] 32))).frozen? ⟨w.heap.size, o, none⟩ = false := frozen_alloc w _ _
  have z0 : ((w.alloc (.cells #[.int .i64 0, .int .i64 0, .int .i64 0, .int .i64 0, .slice none 0 0] 32))).heap.size = w.heap.size + 1 := by simp
  go_enter Tryz.func73, Tryz.ntmps73
  go_wp2_with (fail)
  generalize (w.alloc (.cells #[.int .i64 0, .int .i64 0, .int .i64 0, .int .i64 0, .slice none 0 0] 32)) = w0 at *
  refine (pick_s g A n c a 3 _ D0 hn (by omega) (by omega)).mono ?_; rintro e w1 ⟨r1, hr1, rfl, a1, h11, h12, D1, C1, S1⟩
  go_wp2_with (fail)
  refine (pick_s g A n c a1 2 _ D1 hn (by omega) (by omega)).mono ?_; rintro e w2 ⟨r2, hr2, rfl, a2, h21, h22, D2, C2, S2⟩
  go_wp2_with (fail)
  refine (pick_s g A n c a2 5 _ D2 hn (by omega) (by omega)).mono ?_; rintro e w3 ⟨r3, hr3, rfl, a3, h31, h32, D3, C3, S3⟩
  go_wp2_with (fail)
  refine (pick_s g A n c a3 3 _ D3 hn (by omega) (by omega)).mono ?_; rintro e w4 ⟨s, hs, rfl, a4, h41, h42, D4, C4, S4⟩
  obtain ⟨C, hC⟩ : ∃ C : Nat, 1 + (r1 : Int) = C := ⟨1 + r1, by omega⟩
  obtain ⟨H, hH⟩ : ∃ H : Nat, 1 + (r2 : Int) = H := ⟨1 + r2, by omega⟩
  obtain ⟨P, hP⟩ : ∃ P : Nat, 1 + (r3 : Int) = P := ⟨1 + r3, by omega⟩
  rw [hC, hH, hP]
  have c1 : 1 ≤ C ∧ C ≤ 3 := by omega
  have c2 : 1 ≤ H ∧ H ≤ 2 := by omega
  have c3 : 1 ≤ P ∧ P ≤ 5 := by omega
  have c4 : s ≤ 2 := by omega
  have hT : C * H ≤ 6 := Nat.mul_le_mul c1.2 c2.2
  have hT1 : 1 ≤ C * H := Nat.mul_le_mul c1.1 c2.1
  obtain ⟨N, hN⟩ : ∃ N, C * H * P = N := ⟨_, rfl⟩
  have hN30 : N ≤ 30 := by rw [← hN]; exact Nat.mul_le_mul hT c3.2
  have hN1 : 1 ≤ N := by rw [← hN]; exact Nat.mul_le_mul hT1 c3.1
  have a4b : a4 ≤ a + 8 := by omega
  have CC := (((C0.trans C1).trans C2).trans C3).trans C4
  have RR := (((R0.chgIn C1 (by omega) (.inr (by omega))).chgIn C2 (by omega) (.inr (by omega))).chgIn C3 (by omega) (.inr (by omega))).chgIn C4 (by omega) (.inr (by omega))
  have FF := frozen_chg (frozen_chg (frozen_chg (frozen_chg F0 C1 (by omega) (.inr (by omega))) C2 (by omega) (.inr (by omega))) C3 (by omega) (.inr (by omega))) C4 (by omega) (.inr (by omega))
  have zz4 : w4.heap.size = w.heap.size + 1 := by omega
  have HNW := Lib.hid (new_s (C : Int) (H : Int) (P : Int) (s : Int) (C * H) N w4 (by rfl) (by rw [← hN]; rfl) (by omega) (by omega) (by omega))
  have HN := Lib.hid hN
  clear hC hH hP hr1 hr2 hr3 hs h11 h12 h21 h22 h31 h32 h41 h42 D0 D1 D2 D3 C0 C1 C2 C3 C4 R0 F0 S1 S2 S3 S4 hN h z0 hT hT1
  go_wp2_with (fail)
  refine HNW.out.mono ?_; rintro r w5 ⟨x5, rfl, ho5, hb5⟩
  obtain ⟨X5, c5, rfl, hX5⟩ := OwnL.shape ho5
  rw [List.length_replicate] at ho5 ⊢
  obtain ⟨gs, rfl, hg0, hg5⟩ := hX5.resolve_left (fun h0 => by have := congrArg List.length h0; simp at this; omega)
  have z5 := hb5.size
  have hba : Below w5.heap.size w5 (w5.alloc (.cells #[.int .i64 (C : Int), .int .i64 (H : Int), .int .i64 (P : Int), .int .i64 (s : Int), .slice (some ⟨gs, 0, none⟩) N c5] 32)) := Below.alloc (Below.refl _ _) (Nat.le_refl _) _
  have hb56 := hb5.trans (hba.mono z5)
  have HW : Hid (DrW g w w.heap.size w5.heap.size [.int .i64 (C : Int), .int .i64 (H : Int), .int .i64 (P : Int), .int .i64 (s : Int), .slice (some ⟨gs, 0, none⟩) N c5] (.slice (some ⟨gs, 0, none⟩) N c5) (w5.alloc (.cells #[.int .i64 (C : Int), .int .i64 (H : Int), .int .i64 (P : Int), .int .i64 (s : Int), .slice (some ⟨gs, 0, none⟩) N c5] 32)) (List.replicate N (zSec (szN (s : Int))))) := Lib.hid
    ⟨CC.belowK hb56 (by omega), RR.below hb56 (by omega), frozen_below FF hb56 (by omega), Row.alloc w5 _ _, frozen_alloc w5 _ _, OwnL.below (OwnL.base ho5 (by omega)) hba, (fun e0 => by have e1 : some gs = some w.heap.size := e0; injection e1 with e1; omega), (fun e0 => by have e1 : some gs = some w5.heap.size := e0; injection e1 with e1; omega), Nat.le_refl _, by omega, by omega, by simp; omega, by simp, hg⟩
  have D6 := D4.belowK hb56 (by omega)
  have hm : szN (s : Int) ≤ 32 ∧ 1 ≤ szN (s : Int) := by
    have : s = 0 ∨ s = 1 ∨ s = 2 := by omega
    rcases this with rfl | rfl | rfl <;> decide
  clear CC RR FF ho5 hb5 hba hb56 hX5 D4 HNW
  go_wp2_with (fail)
  generalize (w5.alloc (.cells #[.int .i64 (C : Int), .int .i64 (H : Int), .int .i64 (P : Int), .int .i64 (s : Int), .slice (some ⟨gs, 0, none⟩) N c5] 32)) = w6 at *
  obtain ⟨bd, hbd⟩ : ∃ bd, w5.heap.size = bd := ⟨_, rfl⟩
  rw [hbd] at HW ⊢
  have hgsb : w.heap.size < gs ∧ gs < bd := by omega
  clear hbd
  have HKS : Hid (∀ w' S, DrW g w w.heap.size bd [.int .i64 (C : Int), .int .i64 (H : Int), .int .i64 (P : Int), .int .i64 (s : Int), .slice (some ⟨gs, 0, none⟩) N c5] (.slice (some ⟨gs, 0, none⟩) N c5) w' S → w'.cell? ⟨bd, 3, none⟩ = some (.int .i64 (s : Int)) ∧ w'.cell? ⟨bd, 4, none⟩ = some (.slice (some ⟨gs, 0, none⟩) N c5)) := Lib.hid fun w' S h => ⟨h.rd 3 _ rfl, h.rd 4 _ rfl⟩
  have HBY := Lib.hid (fun (w' : World) => bytes_s (s : Int) w' (by omega))
  have hggs : g < gs := by omega
  obtain ⟨m, hmE⟩ : ∃ m, szN (s : Int) = m := ⟨_, rfl⟩
  rw [hmE] at hm HBY
  have HM := Lib.hid hmE
  clear hmE
  go_loopw [7] (fun ii wx => ∃ (k a' : Nat) (S : List Sec), k ≤ N ∧ ii = .int .i64 k ∧ a' ≤ a + 8 + 120 * k ∧ DrAt wx g A n c a' ∧ Hid (S.length = N ∧ ∀ s ∈ S, s.data.size = m) ∧ Hid (DrW g w w.heap.size bd [.int .i64 (C : Int), .int .i64 (H : Int), .int .i64 (P : Int), .int .i64 (s : Int), .slice (some ⟨gs, 0, none⟩) N c5] (.slice (some ⟨gs, 0, none⟩) N c5) wx S)) (fun ii _ => N - (intOf ii).toNat)
  case atStart => exact ⟨0, a4, _, by omega, rfl, by omega, D6, Lib.hid ⟨List.length_replicate, fun t ht => by rw [List.eq_of_mem_replicate ht, ← HM.out]; show (strN _).size = _; rw [strN_size, List.length_replicate]⟩, HW⟩
  case round =>
    clear HW D6 a4b
    obtain ⟨k, a7, S, hk, rfl, ha7, D7, HS, HW⟩ := hrel
    have x4 := HW.out.rd 4 _ rfl
    by_cases hlt : k < N
    · have hki : (k : Int) < (N : Int) := by omega
      go_wp2_with (fail)
      refine (one_s g A n c a7 8 _ D7 hn (by omega) (by omega)).mono ?_; rintro e w7 ⟨b7, rfl, a8, h81, h82, D8, C8, S8⟩
      have HW7 := Lib.hid (HW.out.chg C8)
      clear x4 D7 C8 S8 HW
      cases b7
      · obtain ⟨t, ht⟩ : ∃ t, S[k]? = some t := ⟨S[k]'(by have := HS.out.1; omega), List.getElem?_eq_getElem (by have := HS.out.1; omega)⟩
        have HT := Lib.hid ht
        have HW7d := Lib.hid (HW7.out.below (Below.refl w7.heap.size w7).drew)
        have D8d := D8.belowK (Below.refl w7.heap.size w7).drew D8.lt
        have k73 := HW7d.out.rd 3 _ rfl
        have k74 := HW7d.out.rd 4 _ rfl
        clear ht
        go_wp2_with (fail)
        go_region_held3 (fun w' => w'.cell? ⟨bd, 3, none⟩ = some (.int .i64 (s : Int)) ∧ w'.cell? ⟨bd, 4, none⟩ = some (.slice (some ⟨gs, 0, none⟩) N c5))
          (first | with_reducible exact HKS.out _ _ HW7d.out | with_reducible exact HKS.out _ _ HW9.out | with_reducible exact HKS.out _ _ HW10.out)
          (first
            | (go_at_call 57; refine (HBY.out _).mono ?_; rintro r w8 ⟨rfl, rfl⟩)
            | (go_at_call 74; refine (dat_s g A n c a8 m _ D8d hn (by omega) (by omega) (by omega)).mono ?_; rintro e w9 ⟨dd, a9, rfl, hdz, ha9, D9, C9⟩; have HW9 := Lib.hid (HW7d.out.chg C9); obtain ⟨q0, q1, fz⟩ := secs_at HW9.out.sec HS.out.1 HT.out; have k94 := HW9.out.rd 4 _ rfl; have HW10 := Lib.hid (HW9.out.grow (gset (World.grownBy.refl w9 (some gs)) (k * 2) (.string dd)) (fun q hq => by injection hq with hq; omega) (secs_data HW9.out.sec HS.out.1 HT.out dd))))
        have D10 := D9.setNew (b := gs) (o := k * 2) hggs (.string dd)
        have HS10 : Hid ((S.set k ⟨dd, t.state⟩).length = N ∧ ∀ s ∈ S.set k ⟨dd, t.state⟩, s.data.size = m) := Lib.hid ⟨by rw [List.length_set]; exact HS.out.1, fun u hu => by
          rcases List.mem_or_eq_of_mem_set hu with hu | rfl
          · exact HS.out.2 u hu
          · exact hdz⟩
        have HT10 : Hid ((S.set k ⟨dd, t.state⟩)[k]? = some ⟨dd, t.state⟩) := Lib.hid (by rw [List.getElem?_set_self (by have := HS.out.1; omega)])
        clear q0 q1 fz k73 k74 k94 HW7 HW7d D8 D8d D9 C9 HW9 HT HS
        generalize S.set k ⟨dd, t.state⟩ = S10 at *
        generalize w9.setCell ⟨gs, k * 2, none⟩ (.string dd) = w10 at *
        have hg10 := D10.lt
        have Bd10 : Below w10.heap.size w10 (w10.drew.alloc (.cells #[.int .i64 1, .int .i64 1, .int .i64 1, .int .i64 2, .int .i64 4] 2)) := Below.alloc (Below.refl w10.heap.size w10).drew (Nat.le_refl _) _
        have HW10d := Lib.hid (HW10.out.below (Below.refl w10.heap.size w10).drew)
        have HWL := Lib.hid (HW10.out.below Bd10)
        have HWM : Hid (DrW g w w.heap.size bd [.int .i64 (C : Int), .int .i64 (H : Int), .int .i64 (P : Int), .int .i64 (s : Int), .slice (some ⟨gs, 0, none⟩) N c5] (.slice (some ⟨gs, 0, none⟩) N c5) (w10.alloc (.cells #[.int .i64 1, .int .i64 1, .int .i64 1, .int .i64 2, .int .i64 4] 2)).drew S10) := Lib.hid (HW10.out.below (Below.alloc (Below.refl w10.heap.size w10) (Nat.le_refl _) _).drew)
        have DL := D10.belowK Bd10 hg10
        have HAM := Lib.hid (among_s g A n c a9 w10.heap.size 5 [1, 1, 1, 2, 4] (w10.drew.alloc (.cells #[.int .i64 1, .int .i64 1, .int .i64 1, .int .i64 2, .int .i64 4] 2)) DL hn (by omega) (by simp) (by simp) hg10 (by simp) (fun j x hj => by
          match j, hj with
          | 0, hj => simp at hj; subst hj; exact Row.alloc w10.drew #[.int .i64 1, .int .i64 1, .int .i64 1, .int .i64 2, .int .i64 4] 2 0 _ rfl
          | 1, hj => simp at hj; subst hj; exact Row.alloc w10.drew #[.int .i64 1, .int .i64 1, .int .i64 1, .int .i64 2, .int .i64 4] 2 1 _ rfl
          | 2, hj => simp at hj; subst hj; exact Row.alloc w10.drew #[.int .i64 1, .int .i64 1, .int .i64 1, .int .i64 2, .int .i64 4] 2 2 _ rfl
          | 3, hj => simp at hj; subst hj; exact Row.alloc w10.drew #[.int .i64 1, .int .i64 1, .int .i64 1, .int .i64 2, .int .i64 4] 2 3 _ rfl
          | 4, hj => simp at hj; subst hj; exact Row.alloc w10.drew #[.int .i64 1, .int .i64 1, .int .i64 1, .int .i64 2, .int .i64 4] 2 4 _ rfl
          | j + 5, hj => simp at hj))
        have k104 := HW10d.out.rd 4 _ rfl
        have kL4 : (w10.alloc (.cells #[.int .i64 1, .int .i64 1, .int .i64 1, .int .i64 2, .int .i64 4] 2)).cell? ⟨bd, 4, none⟩ = some (.slice (some ⟨gs, 0, none⟩) N c5) := HWL.out.rd 4 _ rfl
        clear Bd10 DL D10
        go_wp2_with (fail)
        go_region_held3 (fun w' => w'.cell? ⟨bd, 4, none⟩ = some (.slice (some ⟨gs, 0, none⟩) N c5))
          (first | with_reducible exact (HKS.out _ _ HW10d.out).2 | with_reducible exact (HKS.out _ _ HWL.out).2 | with_reducible exact (HKS.out _ _ HWM.out).2 | with_reducible exact (HKS.out _ _ HW12.out).2 | with_reducible exact (HKS.out _ _ HW13.out).2)
          (first
            | (go_at_call 38; refine HAM.out.mono ?_; rintro e w12 ⟨x, hx, rfl, a12, h121, h122, D12, C12, S12⟩; have HW12 := Lib.hid (HWL.out.chg C12); obtain ⟨q0, q1, fz⟩ := secs_at HW12.out.sec HS10.out.1 HT10.out; have k124 := HW12.out.rd 4 _ rfl; have HW13 := Lib.hid (HW12.out.grow (gset (World.grownBy.refl w12 (some gs)) (k * 2 + 1) (.int .i64 x)) (fun q hq => by injection hq with hq; omega) (secs_state HW12.out.sec HS10.out.1 HT10.out x))))
        have D13 := D12.setNew (b := gs) (o := k * 2 + 1) hggs (.int .i64 x)
        have HS13 : Hid ((S10.set k ⟨dd, x⟩).length = N ∧ ∀ s ∈ S10.set k ⟨dd, x⟩, s.data.size = m) := Lib.hid ⟨by rw [List.length_set]; exact HS10.out.1, fun u hu => by
          rcases List.mem_or_eq_of_mem_set hu with hu | rfl
          · exact HS10.out.2 u hu
          · exact hdz⟩
        clear q0 q1 fz k104 kL4 k124 HAM HW10 HW10d HWL HWM HW12 D12 C12 S12
        go_wp2_with (fail)
        go_roundw
        case rel => exact ⟨k + 1, a12, _, by omega, by go_num, by omega, D13, HS13, HW13⟩
        case measure => simp [intOf]; omega
      · go_wp2_with (fail)
        go_roundw
        case rel => exact ⟨k + 1, a8, S, by omega, by go_num, by omega, D8, HS, HW7⟩
        case measure => simp [intOf]; omega
    · obtain rfl : N = k := by omega
      have y0 := HW.out.r2 0 _ rfl
      have y1 := HW.out.r2 1 _ rfl
      have y2 := HW.out.r2 2 _ rfl
      have y3 := HW.out.r2 3 _ rfl
      have y4 := HW.out.r2 4 _ rfl
      have f0 := HW.out.f2 0
      have f1 := HW.out.f2 1
      have f2 := HW.out.f2 2
      have f3 := HW.out.f2 3
      have f4 := HW.out.f2 4
      have x0 := HW.out.rd 0 _ rfl
      have x1 := HW.out.rd 1 _ rfl
      have x2 := HW.out.rd 2 _ rfl
      have x3 := HW.out.rd 3 _ rfl
      have R9 := set5_row HW.out.r2 (.int .i64 (C : Int)) (.int .i64 (H : Int)) (.int .i64 (P : Int)) (.int .i64 (s : Int)) (.slice (some ⟨gs, 0, none⟩) N c5)
      have v0 := R9 0 _ rfl
      have v1 := R9 1 _ rfl
      have v2 := R9 2 _ rfl
      have v3 := R9 3 _ rfl
      have v4 := R9 4 _ rfl
      have hG : wr.grownBy (((((wr.setCell ⟨w.heap.size, 0, none⟩ (.int .i64 (C : Int))).setCell ⟨w.heap.size, 1, none⟩ (.int .i64 (H : Int))).setCell ⟨w.heap.size, 2, none⟩ (.int .i64 (P : Int))).setCell ⟨w.heap.size, 3, none⟩ (.int .i64 (s : Int))).setCell ⟨w.heap.size, 4, none⟩ (.slice (some ⟨gs, 0, none⟩) N c5)) (some w.heap.size) := gset (gset (gset (gset (gset (World.grownBy.refl wr _) _ _) _ _) _ _) _ _) _ _
      have HO9 : Hid (SecOwn w.heap.size (((((wr.setCell ⟨w.heap.size, 0, none⟩ (.int .i64 (C : Int))).setCell ⟨w.heap.size, 1, none⟩ (.int .i64 (H : Int))).setCell ⟨w.heap.size, 2, none⟩ (.int .i64 (P : Int))).setCell ⟨w.heap.size, 3, none⟩ (.int .i64 (s : Int))).setCell ⟨w.heap.size, 4, none⟩ (.slice (some ⟨gs, 0, none⟩) N c5)) (.slice (some ⟨gs, 0, none⟩) N c5) S) := Lib.hid (OwnL.kept HW.out.sec hG (.inr HW.out.hb))
      have HC9 : Hid (Chg g (g + 1) w (((((wr.setCell ⟨w.heap.size, 0, none⟩ (.int .i64 (C : Int))).setCell ⟨w.heap.size, 1, none⟩ (.int .i64 (H : Int))).setCell ⟨w.heap.size, 2, none⟩ (.int .i64 (P : Int))).setCell ⟨w.heap.size, 3, none⟩ (.int .i64 (s : Int))).setCell ⟨w.heap.size, 4, none⟩ (.slice (some ⟨gs, 0, none⟩) N c5))) := Lib.hid (Chg.setNew (Chg.setNew (Chg.setNew (Chg.setNew (Chg.setNew HW.out.ch (Nat.le_refl _) _) (Nat.le_refl _) _) (Nat.le_refl _) _) (Nat.le_refl _) _) (Nat.le_refl _) _)
      have HD9 : Hid (DrAt (((((wr.setCell ⟨w.heap.size, 0, none⟩ (.int .i64 (C : Int))).setCell ⟨w.heap.size, 1, none⟩ (.int .i64 (H : Int))).setCell ⟨w.heap.size, 2, none⟩ (.int .i64 (P : Int))).setCell ⟨w.heap.size, 3, none⟩ (.int .i64 (s : Int))).setCell ⟨w.heap.size, 4, none⟩ (.slice (some ⟨gs, 0, none⟩) N c5)) g A n c a7) := Lib.hid (DrAt.setNew (DrAt.setNew (DrAt.setNew (DrAt.setNew (DrAt.setNew D7 hg _) hg _) hg _) hg _) hg _)
      have HOK : Hid (DrcOk ⟨(C : Int), (H : Int), (P : Int), (s : Int), S⟩) := Lib.hid ⟨⟨C, H, P, s, rfl, rfl, rfl, rfl, c1.1, c1.2, c2.1, c2.2, c3.1, c3.2, c4, by show S.length = _; rw [HS.out.1, HN.out]⟩, fun u hu => (HS.out.2 u hu).trans HM.out.symm⟩
      clear R9 hG HW HS HKS HBY D7
      go_wp2_with (fail)
      generalize (((((wr.setCell ⟨w.heap.size, 0, none⟩ (.int .i64 (C : Int))).setCell ⟨w.heap.size, 1, none⟩ (.int .i64 (H : Int))).setCell ⟨w.heap.size, 2, none⟩ (.int .i64 (P : Int))).setCell ⟨w.heap.size, 3, none⟩ (.int .i64 (s : Int))).setCell ⟨w.heap.size, 4, none⟩ (.slice (some ⟨gs, 0, none⟩) N c5)) = W9 at *
      exact bodyPost_ret (v := .agg #[.int .i64 (C : Int), .int .i64 (H : Int), .int .i64 (P : Int), .int .i64 (s : Int), .slice (some ⟨gs, 0, none⟩) N c5]) (by simp [results, Tryz.results73, go_sem, v0, v1, v2, v3, v4] <;> rfl) rfl ⟨⟨(C : Int), (H : Int), (P : Int), (s : Int), S⟩, _, a7, rfl, HO9.out, HOK.out, by omega, HD9.out, HC9.out⟩
end Go.Proofs.YtddihmpiaemadaaGreatDoor
