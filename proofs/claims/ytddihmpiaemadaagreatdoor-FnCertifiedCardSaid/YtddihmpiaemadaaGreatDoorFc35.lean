/- Evidence drawn that may be invalid: the walk of l26Bent. Evidence drawn that may be invalid: the walk of l26Bent. -/
import Derived.Test.YtddihmpiaemadaaGreatDoorFc33
import Derived.Test.YtddihmpiaemadaaGreatDoorFc34
namespace Go.Proofs.YtddihmpiaemadaaGreatDoor
set_option linter.unusedVariables false
set_option linter.unusedSimpArgs false
open Go.RowKit
section
variable {B : Nat} {w w' : World} {va vb vc vd v' x : Value} {pl : List (Dsc × Value)} {cr cr' : List Int} {ps qs ps' : List ByteArray} {d : Dsc}
theorem OutL.kept {row : Option Nat} (h : OutL B w va pl) (hg : w.grownBy w' row) (h1 : va.ownBlock = none ∨ va.ownBlock ≠ row) (h2 : ∀ p ∈ pl, p.2.ownBlock = none ∨ p.2.ownBlock ≠ row) : OutL B w' va pl := ⟨OwnL.kept h.o hg h1, fun p hp => ⟨OwnL.kept (h.s p hp).1 hg (h2 p hp), (h.s p hp).2⟩⟩
theorem EvX.kept {row : Option Nat} (h : EvX B w va vb vc vd pl cr ps qs) (hg : w.grownBy w' row) (hr : ∀ k, row = some k → ∀ v ∈ va :: vb :: vc :: vd :: pl.map Prod.snd, v.ownBlock ≠ some k) : EvX B w' va vb vc vd pl cr ps qs := by
  have key : ∀ v ∈ va :: vb :: vc :: vd :: pl.map Prod.snd, v.ownBlock = none ∨ v.ownBlock ≠ row := fun v hv => by
    cases e : v.ownBlock with
    | none => exact .inl rfl
    | some k => exact .inr (fun e2 => hr k e2.symm v hv e)
  exact ⟨h.ds.kept hg (key _ (by simp)) (fun p hp => key _ (by simp only [List.mem_cons, List.mem_map]; exact .inr (.inr (.inr (.inr ⟨p, hp, rfl⟩))))), OwnL.kept h.cr hg (key _ (by simp)), OwnL.kept h.p hg (key _ (by simp)), OwnL.kept h.q hg (key _ (by simp)), h.ab, h.ac, h.ad, h.bc, h.bd, h.cd, h.pb⟩
theorem EvX.putA (h : EvX B w va vb vc vd pl cr ps qs) (ho : OwnL dpc 5 32 B w' v' (pl ++ [(d, x)])) (hg : w.grownBy w' va.ownBlock) (hat : v'.ownBlock = va.ownBlock ∨ v'.ownBlock = some w.heap.size) (hs : SecOwn B w x d.secs) (ha : Dj va x) (hb : Dj vb x) (hc : Dj vc x) (hd : Dj vd x) : EvX B w' v' vb vc vd (pl ++ [(d, x)]) cr ps qs :=
  ⟨OutL.snoc h.ds ho hg hat hs ha, OwnL.kept h.cr hg (dj_kept h.ab.symm), OwnL.kept h.p hg (dj_kept h.ac.symm), OwnL.kept h.q hg (dj_kept h.ad.symm), h.ab.new hat (own_hi h.cr), h.ac.new hat (own_hi h.p), h.ad.new hat (own_hi h.q), h.bc, h.bd, h.cd, fun p hp => by
    rcases List.mem_append.1 hp with hp | hp
    · exact h.pb p hp
    · obtain rfl : p = (d, x) := by simpa using hp
      exact ⟨hb.symm, hc.symm, hd.symm⟩⟩
theorem EvX.putB (h : EvX B w va vb vc vd pl cr ps qs) (ho : Int64L B w' v' cr') (hg : w.grownBy w' vb.ownBlock) (hat : v'.ownBlock = vb.ownBlock ∨ v'.ownBlock = some w.heap.size) : EvX B w' va v' vc vd pl cr' ps qs :=
  ⟨h.ds.kept hg (dj_kept h.ab) (fun p hp => dj_kept (h.pb p hp).1), ho, OwnL.kept h.p hg (dj_kept h.bc.symm), OwnL.kept h.q hg (dj_kept h.bd.symm), (h.ab.symm.new hat (own_hi h.ds.o)).symm, h.ac, h.ad, h.bc.new hat (own_hi h.p), h.bd.new hat (own_hi h.q), h.cd, fun p hp => ⟨((h.pb p hp).1.symm.new hat (own_hi (h.ds.s p hp).1)).symm, (h.pb p hp).2⟩⟩
theorem EvX.putC (h : EvX B w va vb vc vd pl cr ps qs) (ho : StringL B w' v' ps') (hg : w.grownBy w' vc.ownBlock) (hat : v'.ownBlock = vc.ownBlock ∨ v'.ownBlock = some w.heap.size) : EvX B w' va vb v' vd pl cr ps' qs :=
  ⟨h.ds.kept hg (dj_kept h.ac) (fun p hp => dj_kept (h.pb p hp).2.1), OwnL.kept h.cr hg (dj_kept h.bc), ho, OwnL.kept h.q hg (dj_kept h.cd.symm), h.ab, (h.ac.symm.new hat (own_hi h.ds.o)).symm, h.ad, (h.bc.symm.new hat (own_hi h.cr)).symm, h.bd, h.cd.new hat (own_hi h.q), fun p hp => ⟨(h.pb p hp).1, ((h.pb p hp).2.1.symm.new hat (own_hi (h.ds.s p hp).1)).symm, (h.pb p hp).2.2⟩⟩
theorem EvX.putD (h : EvX B w va vb vc vd pl cr ps qs) (ho : StringL B w' v' ps') (hg : w.grownBy w' vd.ownBlock) (hat : v'.ownBlock = vd.ownBlock ∨ v'.ownBlock = some w.heap.size) : EvX B w' va vb vc v' pl cr ps ps' :=
  ⟨h.ds.kept hg (dj_kept h.ad) (fun p hp => dj_kept (h.pb p hp).2.2), OwnL.kept h.cr hg (dj_kept h.bd), OwnL.kept h.p hg (dj_kept h.cd), ho, h.ab, h.ac, (h.ad.symm.new hat (own_hi h.ds.o)).symm, h.bc, (h.bd.symm.new hat (own_hi h.cr)).symm, (h.cd.symm.new hat (own_hi h.p)).symm, fun p hp => ⟨(h.pb p hp).1, (h.pb p hp).2.1, ((h.pb p hp).2.2.symm.new hat (own_hi (h.ds.s p hp).1)).symm⟩⟩
theorem EvX.nil (h : EvX B w va vb vc vd pl cr ps qs) : EvX B w (.slice none 0 0) vb vc vd [] cr ps qs :=
  ⟨⟨OwnL.of_nil, fun p hp => by cases hp⟩, h.cr, h.p, h.q, Dj.nil, Dj.nil, Dj.nil, h.bc, h.bd, h.cd, fun p hp => by cases hp⟩
theorem EvX.base {B' : Nat} (h : EvX B w va vb vc vd pl cr ps qs) (hB : B' ≤ B) : EvX B' w va vb vc vd pl cr ps qs :=
  ⟨h.ds.base hB, OwnL.base h.cr hB, OwnL.base h.p hB, OwnL.base h.q hB, h.ab, h.ac, h.ad, h.bc, h.bd, h.cd, h.pb⟩
theorem EvX.below (h : EvX B w va vb vc vd pl cr ps qs) (hb : Below w.heap.size w w') : EvX B w' va vb vc vd pl cr ps qs :=
  ⟨h.ds.below hb, OwnL.below h.cr hb, OwnL.below h.p hb, OwnL.below h.q hb, h.ab, h.ac, h.ad, h.bc, h.bd, h.cd, h.pb⟩
theorem EvX.chg {B' E' : Nat} (h : EvX B w va vb vc vd pl cr ps qs) (hc : Chg B' E' w w') (hd : E' ≤ B) : EvX B w' va vb vc vd pl cr ps qs :=
  ⟨h.ds.chgX hc hd, OwnL.chgX h.cr hc hd, OwnL.chgX h.p hc hd, OwnL.chgX h.q hc hd, h.ab, h.ac, h.ad, h.bc, h.bd, h.cd, h.pb⟩
theorem EvX.far {k o : Nat} {u : Value} (h : EvX B w va vb vc vd pl cr ps qs) (hk : k < B) : EvX B (w.setCell ⟨k, o, none⟩ u) va vb vc vd pl cr ps qs :=
  ⟨h.ds.far hk, far_set h.cr hk, far_set h.p hk, far_set h.q hk, h.ab, h.ac, h.ad, h.bc, h.bd, h.cd, h.pb⟩
theorem EvX.own_lt (h : EvX B w va vb vc vd pl cr ps qs) : ∀ v ∈ va :: vb :: vc :: vd :: pl.map Prod.snd, ∀ k, v.ownBlock = some k → B ≤ k ∧ k < w.heap.size := by
  intro v hv
  simp only [List.mem_cons, List.mem_map] at hv
  rcases hv with rfl | rfl | rfl | rfl | ⟨p, hp, rfl⟩
  · exact fun k hk => World.ownsRow.lt h.ds.o k hk
  · exact fun k hk => World.ownsRow.lt h.cr k hk
  · exact fun k hk => World.ownsRow.lt h.p k hk
  · exact fun k hk => World.ownsRow.lt h.q k hk
  · exact fun k hk => World.ownsRow.lt (h.ds.s p hp).1 k hk
end
/-- the worlds behind drawn evidence in a box be: the result's box b -/
structure ErW (g b be : Nat) (w wx : World) (va vb vc vd : Value) (pl : List (Dsc × Value)) (cr : List Int) (ps qs : List ByteArray) : Prop where
  ch : Chg g (g + 1) w wx
  r2 : Row wx b [.slice none 0 0, .slice none 0 0, .slice none 0 0, .slice none 0 0]
  f2 : ∀ o, wx.frozen? ⟨b, o, none⟩ = false
  re : Row wx be [va, vb, vc, vd]
  fe : ∀ o, wx.frozen? ⟨be, o, none⟩ = false
  ev : EvX (b + 1) wx va vb vc vd pl cr ps qs
  off : ∀ v ∈ va :: vb :: vc :: vd :: pl.map Prod.snd, v.ownBlock ≠ some be
  o1 : w.heap.size ≤ b
  o2 : b < be
  l2 : be < wx.heap.size
  og : g < w.heap.size
section
variable {g b be : Nat} {w wx w' : World} {va vb vc vd va' vb' vc' vd' : Value} {pl pl' : List (Dsc × Value)} {cr cr' : List Int} {ps qs ps' qs' : List ByteArray}
theorem ErW.below (h : ErW g b be w wx va vb vc vd pl cr ps qs) (hw : Below wx.heap.size wx w') : ErW g b be w w' va vb vc vd pl cr ps qs := by
  obtain ⟨ch, r2, f2, re, fe, ev, off, o1, o2, l2, og⟩ := h
  exact ⟨ch.belowK hw ch.size, r2.below hw (by omega), frozen_below f2 hw (by omega), re.below hw l2, frozen_below fe hw l2, ev.below hw, off, o1, o2, Nat.lt_of_lt_of_le l2 hw.size, og⟩
theorem ErW.chg (h : ErW g b be w wx va vb vc vd pl cr ps qs) (hc : Chg g (g + 1) wx w') : ErW g b be w w' va vb vc vd pl cr ps qs := by
  obtain ⟨ch, r2, f2, re, fe, ev, off, o1, o2, l2, og⟩ := h
  exact ⟨ch.trans hc, r2.chgIn hc (by omega) (.inr (by omega)), frozen_chg f2 hc (by omega) (.inr (by omega)), re.chgIn hc l2 (.inr (by omega)), frozen_chg fe hc l2 (.inr (by omega)), ev.chg hc (by omega), off, o1, o2, Nat.lt_of_lt_of_le l2 hc.size, og⟩
theorem ErW.grow (h : ErW g b be w wx va vb vc vd pl cr ps qs) {row : Option Nat} (hg : wx.grownBy w' row) (hr : ∀ k, row = some k → b + 1 ≤ k ∧ k ≠ be) (hev : EvX (b + 1) w' va vb vc vd pl cr' ps' qs') : ErW g b be w w' va vb vc vd pl cr' ps' qs' := by
  obtain ⟨ch, r2, f2, re, fe, ev, off, o1, o2, l2, og⟩ := h
  exact ⟨ch.grown hg (fun k hk => by have := (hr k hk).1; omega), grown_row hg (by omega) (fun e => by have := (hr b e).1; omega) r2, grown_frozen hg (by omega) (fun e => by have := (hr b e).1; omega) f2, grown_row hg l2 (fun e => (hr be e).2 rfl) re, grown_frozen hg l2 (fun e => (hr be e).2 rfl) fe, hev, off, o1, o2, Nat.lt_of_lt_of_le l2 hg.size, og⟩
theorem ErW.put (h : ErW g b be w wx va vb vc vd pl cr ps qs) {row : Option Nat} (hg : wx.grownBy w' row) (hr : ∀ k, row = some k → b + 1 ≤ k ∧ k ≠ be) (hev : EvX (b + 1) w' va' vb' vc' vd' pl' cr' ps' qs') (hoff : ∀ v ∈ va' :: vb' :: vc' :: vd' :: pl'.map Prod.snd, v.ownBlock ≠ some be) {o : Nat} {u : Value} (ho : o < 4) (hu : [va, vb, vc, vd].set o u = [va', vb', vc', vd']) : ErW g b be w (w'.setCell ⟨be, o, none⟩ u) va' vb' vc' vd' pl' cr' ps' qs' := by
  obtain ⟨ch, r2, f2, re, fe, ev, off, o1, o2, l2, og⟩ := h
  refine ⟨(ch.grown hg (fun k hk => by have := (hr k hk).1; omega)).setNew (by omega) _, (grown_row hg (by omega) (fun e => by have := (hr b e).1; omega) r2).set_other _ (by omega), fun o => by rw [setCell_frozen]; exact grown_frozen hg (by omega) (fun e => by have := (hr b e).1; omega) f2 o, ?_, fun o => by rw [setCell_frozen]; exact grown_frozen hg l2 (fun e => (hr be e).2 rfl) fe o, hev.kept (gset (World.grownBy.refl w' (some be)) _ _) (fun k hk v hv => by injection hk with hk; subst hk; exact hoff v hv), hoff, o1, o2, by rw [setCell_size]; exact Nat.lt_of_lt_of_le l2 hg.size, og⟩
  rw [← hu]
  exact (grown_row hg l2 (fun e => (hr be e).2 rfl) re).set u ho
end
/-- the sizes of evidence that may be invalid -/
structure EvM (pl : List (Dsc × Value)) (cr : List Int) (ps qs : List ByteArray) : Prop where
  ds : pl.length ≤ 8
  secs : ∀ p ∈ pl, p.1.secs.length ≤ 64 ∧ ∀ s ∈ p.1.secs, s.data.size ≤ 64
  cr : cr.length ≤ 64
  p : ps.length ≤ 65
  q : qs.length ≤ 64
  ps : ∀ s ∈ ps, s.size ≤ 64
  qs : ∀ s ∈ qs, s.size ≤ 64
theorem EvM.small {pl : List (Dsc × Value)} {cr : List Int} {ps qs : List ByteArray} (h : EvM pl cr ps qs) : EvSmall ⟨pl.map Prod.fst, cr, ps, qs⟩ where
  ds := by show (pl.map Prod.fst).length ≤ _; rw [List.length_map]; have := h.ds; omega
  secs := fun d hd => by
    obtain ⟨p, hp, rfl⟩ := List.mem_map.1 hd
    have := (h.secs p hp).1; omega
  data := fun d hd s hs => by
    obtain ⟨p, hp, rfl⟩ := List.mem_map.1 hd
    have := (h.secs p hp).2 s hs
    unfold maxLen; omega
  cr := by have := h.cr; show cr.length ≤ _; omega
  p := by have := h.p; show ps.length ≤ _; omega
  q := by have := h.q; show qs.length ≤ _; omega
  ps := fun s hs => by have := h.ps s hs; unfold maxLen; omega
  qs := fun s hs => by have := h.qs s hs; unfold maxLen; omega
theorem EvN.loose {pl : List (Dsc × Value)} {cr : List Int} {ps qs : List ByteArray} (h : EvN pl cr ps qs) : EvM pl cr ps qs := ⟨h.ds, h.secs, h.cr.2, by have := h.p; omega, h.q.2, h.ps, h.qs⟩
end Go.Proofs.YtddihmpiaemadaaGreatDoor
namespace Go.Proofs.YtddihmpiaemadaaGreatDoor
set_option linter.unusedVariables false
set_option linter.unusedSimpArgs false
open Go.RowKit
theorem ErW.fin {g b be n c a : Nat} {A : Option Addr} {w wx : World} {va vb vc vd : Value} {pl : List (Dsc × Value)} {cr : List Int} {ps qs : List ByteArray} (h : ErW g b be w wx va vb vc vd pl cr ps qs) (hd : DrAt wx g A n c a) :
    (wx.cell? ⟨b, 0, none⟩ = some (.slice none 0 0) ∧ wx.cell? ⟨b, 1, none⟩ = some (.slice none 0 0) ∧ wx.cell? ⟨b, 2, none⟩ = some (.slice none 0 0) ∧ wx.cell? ⟨b, 3, none⟩ = some (.slice none 0 0)) ∧
    (wx.frozen? ⟨b, 0, none⟩ = false ∧ wx.frozen? ⟨b, 1, none⟩ = false ∧ wx.frozen? ⟨b, 2, none⟩ = false ∧ wx.frozen? ⟨b, 3, none⟩ = false) ∧
    (wx.cell? ⟨be, 0, none⟩ = some va ∧ wx.cell? ⟨be, 1, none⟩ = some vb ∧ wx.cell? ⟨be, 2, none⟩ = some vc ∧ wx.cell? ⟨be, 3, none⟩ = some vd) ∧
    ((((((wx.setCell ⟨b, 0, none⟩ va).setCell ⟨b, 1, none⟩ vb).setCell ⟨b, 2, none⟩ vc).setCell ⟨b, 3, none⟩ vd)).cell? ⟨b, 0, none⟩ = some va ∧ (((((wx.setCell ⟨b, 0, none⟩ va).setCell ⟨b, 1, none⟩ vb).setCell ⟨b, 2, none⟩ vc).setCell ⟨b, 3, none⟩ vd)).cell? ⟨b, 1, none⟩ = some vb ∧ (((((wx.setCell ⟨b, 0, none⟩ va).setCell ⟨b, 1, none⟩ vb).setCell ⟨b, 2, none⟩ vc).setCell ⟨b, 3, none⟩ vd)).cell? ⟨b, 2, none⟩ = some vc ∧ (((((wx.setCell ⟨b, 0, none⟩ va).setCell ⟨b, 1, none⟩ vb).setCell ⟨b, 2, none⟩ vc).setCell ⟨b, 3, none⟩ vd)).cell? ⟨b, 3, none⟩ = some vd) ∧
    Hid (EvX w.heap.size ((((wx.setCell ⟨b, 0, none⟩ va).setCell ⟨b, 1, none⟩ vb).setCell ⟨b, 2, none⟩ vc).setCell ⟨b, 3, none⟩ vd) va vb vc vd pl cr ps qs) ∧ Hid (Chg g (g + 1) w ((((wx.setCell ⟨b, 0, none⟩ va).setCell ⟨b, 1, none⟩ vb).setCell ⟨b, 2, none⟩ vc).setCell ⟨b, 3, none⟩ vd)) ∧ Hid (DrAt ((((wx.setCell ⟨b, 0, none⟩ va).setCell ⟨b, 1, none⟩ vb).setCell ⟨b, 2, none⟩ vc).setCell ⟨b, 3, none⟩ vd) g A n c a) := by
  obtain ⟨ch, r2, f2, re, fe, ev, off, o1, o2, l2, og⟩ := h
  have R9 : Row ((((wx.setCell ⟨b, 0, none⟩ va).setCell ⟨b, 1, none⟩ vb).setCell ⟨b, 2, none⟩ vc).setCell ⟨b, 3, none⟩ vd) b [va, vb, vc, vd] := (((r2.set (o := 0) va (by simp)).set (o := 1) vb (by simp)).set (o := 2) vc (by simp)).set (o := 3) vd (by simp)
  have hgb : g < b := by omega
  have hb : b < b + 1 := Nat.lt_succ_self b
  exact ⟨⟨r2 0 _ rfl, r2 1 _ rfl, r2 2 _ rfl, r2 3 _ rfl⟩, ⟨f2 0, f2 1, f2 2, f2 3⟩, ⟨re 0 _ rfl, re 1 _ rfl, re 2 _ rfl, re 3 _ rfl⟩, ⟨R9 0 _ rfl, R9 1 _ rfl, R9 2 _ rfl, R9 3 _ rfl⟩,
    Lib.hid ((((((ev.far hb).far hb).far hb).far hb)).base (by omega)), Lib.hid (Chg.setNew (Chg.setNew (Chg.setNew (Chg.setNew ch o1 _) o1 _) o1 _) o1 _), Lib.hid (DrAt.setNew (DrAt.setNew (DrAt.setNew (DrAt.setNew hd hgb _) hgb _) hgb _) hgb _)⟩
theorem own_at1 {α : Type} {f : α → List Value} {e : TypeId} {B g n c : Nat} {w : World} {l : List α} (hf : ∀ a, (f a).length = 1) (h : OwnL f 1 e B w (.slice (some ⟨g, 0, none⟩) n c) l) (hn : l.length = n) (h0 : 1 ≤ n) : (∃ a, l[0]? = some a ∧ ∀ u, (f a)[0]? = some u → w.cell? ⟨g, 0, none⟩ = some u) ∧ w.frozen? ⟨g, 0, none⟩ = false := by
  subst hn
  obtain ⟨a, ha⟩ : ∃ a, l[0]? = some a := ⟨l[0]'(by omega), List.getElem?_eq_getElem (by omega)⟩
  refine ⟨⟨a, ha, fun u hu => ?_⟩, h.frozen⟩
  have := OwnL.cell hf h ha hu
  simpa using this
theorem own_set1 {α : Type} {f : α → List Value} {e : TypeId} {B g n c : Nat} {w : World} {l : List α} (hf : ∀ a, (f a).length = 1) (h : OwnL f 1 e B w (.slice (some ⟨g, 0, none⟩) n c) l) (hn : l.length = n) (h0 : 1 ≤ n) (a : α) (u : Value) (hu : f a = [u]) : OwnL f 1 e B (w.setCell ⟨g, 0, none⟩ u) (.slice (some ⟨g, 0, none⟩) n c) (l.set 0 a) := by
  subst hn
  have h1 := own_first (o := 0) h u (by rw [flat_len hf]; omega)
  have h2 := flat_put hf l 0 a (by omega)
  rw [Nat.zero_mul, hu] at h2
  rw [h2] at h1
  unfold OwnL
  rw [List.length_set]
  exact h1
set_option maxRecDepth 20000 in
set_option maxHeartbeats 8000000 in
theorem bent26 (g : Nat) (A : Option Addr) (n c a q : Nat) (w : World) (h : DrAt w g A n c a) (hn : n ≤ 1048576) (ha : a ≤ 134217728) (hq : q ≤ 1048576) :
    Calls Tryz.prog 16 #[.pointer (some ⟨g, 0, none⟩), .int .i64 q] w fun e w' => ∃ (va vb vc vd : Value) (pl : List (Dsc × Value)) (cr : List Int) (ps qs : List ByteArray) (a' : Nat), e = .returned (evV va vb vc vd) ∧ EvX w.heap.size w' va vb vc vd pl cr ps qs ∧ EvM pl cr ps qs ∧ a' ≤ a + 65536 ∧ DrAt w' g A n c a' ∧ Chg g (g + 1) w w' := by
  have hg := h.lt
  have D0 := h.alloc (.cells #[.slice none 0 0, .slice none 0 0, .slice none 0 0, .slice none 0 0] 28)
  have C0 : Chg g (g + 1) w (w.alloc (.cells #[.slice none 0 0, .slice none 0 0, .slice none 0 0, .slice none 0 0] 28)) := (Chg.of_below (Below.refl _ _)).alloc _
  have R0 : Row (w.alloc (.cells #[.slice none 0 0, .slice none 0 0, .slice none 0 0, .slice none 0 0] 28)) w.heap.size [.slice none 0 0, .slice none 0 0, .slice none 0 0, .slice none 0 0] := Row.alloc w _ _
  have F0 : ∀ o, ((w.alloc (.cells #[.slice none 0 0, .slice none 0 0, .slice none 0 0, .slice none 0 0] 28))).frozen? ⟨w.heap.size, o, none⟩ = false := frozen_alloc w _ _
  have z0 : ((w.alloc (.cells #[.slice none 0 0, .slice none 0 0, .slice none 0 0, .slice none 0 0] 28))).heap.size = w.heap.size + 1 := by simp
  go_enter Tryz.func16, Tryz.ntmps16
  go_wp2_with (fail)
  generalize (w.alloc (.cells #[.slice none 0 0, .slice none 0 0, .slice none 0 0, .slice none 0 0] 28)) = w0 at *
  refine (draw26 g A n c a _ D0 hn (by omega)).mono ?_; rintro e w1 ⟨va, vb, vc, vd, pl, cr, ps, qs, a1, rfl, hev, hen, hp4, ha1, D1, C1⟩
  obtain ⟨Aa, na, ka, rfl⟩ := own_slice hev.ds.o
  obtain ⟨Ab, kb, rfl, hAb⟩ := OwnL.shape hev.cr
  obtain ⟨Ac, nc, kc, rfl⟩ := own_slice hev.p
  obtain ⟨Aq, kq, rfl, hAq⟩ := OwnL.shape hev.q
  have hcr1 := hen.cr.1
  have hqs1 := hen.q.1
  obtain ⟨gb, rfl, hgb1, hgb2⟩ := hAb.resolve_left (fun h0 => by rw [h0] at hcr1; simp at hcr1)
  obtain ⟨gq, rfl, hgq1, hgq2⟩ := hAq.resolve_left (fun h0 => by rw [h0] at hqs1; simp at hqs1)
  obtain ⟨nb, hnb⟩ : ∃ nb, cr.length = nb := ⟨_, rfl⟩
  obtain ⟨nq, hnq⟩ : ∃ nq, qs.length = nq := ⟨_, rfl⟩
  rw [hnb] at hev hcr1 ⊢
  rw [hnq] at hev hqs1 ⊢
  have zw1 := C1.size
  have ba : Below w1.heap.size w1 (w1.alloc (.cells #[.slice Aa na ka, .slice (some ⟨gb, 0, none⟩) nb kb, .slice Ac nc kc, .slice (some ⟨gq, 0, none⟩) nq kq] 28)) := Below.alloc (Below.refl _ _) (Nat.le_refl _) _
  have HW : Hid (ErW g w.heap.size w1.heap.size w (w1.alloc (.cells #[.slice Aa na ka, .slice (some ⟨gb, 0, none⟩) nb kb, .slice Ac nc kc, .slice (some ⟨gq, 0, none⟩) nq kq] 28)) (.slice Aa na ka) (.slice (some ⟨gb, 0, none⟩) nb kb) (.slice Ac nc kc) (.slice (some ⟨gq, 0, none⟩) nq kq) pl cr ps qs) := Lib.hid
    ⟨(C0.trans C1).belowK ba (by omega), (R0.chgIn C1 (by omega) (.inr (by omega))).below ba (by omega), frozen_below (frozen_chg F0 C1 (by omega) (.inr (by omega))) ba (by omega), Row.alloc w1 _ _, frozen_alloc w1 _ _, (hev.base (by omega)).below ba, (fun v hv e0 => by have := (hev.own_lt v hv _ e0).2; omega), Nat.le_refl _, by omega, by simp, hg⟩
  have D2 := D1.belowK ba D1.lt
  have HEN := Lib.hid hen
  have HNB := Lib.hid hnb
  have HNQ := Lib.hid hnq
  have hgbw : w.heap.size < gb ∧ w.heap.size < gq := by omega
  clear D0 C0 R0 F0 h hev C1 ba D1 hAb hAq hnb hnq hen z0
  go_wp2_with (fail)
  generalize (w1.alloc (.cells #[.slice Aa na ka, .slice (some ⟨gb, 0, none⟩) nb kb, .slice Ac nc kc, .slice (some ⟨gq, 0, none⟩) nq kq] 28)) = w2 at *
  have hgbe0 : gb < w1.heap.size ∧ gq < w1.heap.size := ⟨hgb2, hgq2⟩
  obtain ⟨be, hbe⟩ : ∃ be, w1.heap.size = be := ⟨_, rfl⟩
  rw [hbe] at HW hgbe0 ⊢
  have hgbe : gb < be ∧ gq < be := hgbe0
  clear hbe
  refine (one_s g A n c a1 q _ D2 hn (by omega) hq).mono ?_; rintro e w3 ⟨b7, rfl, a3, h31, h32, D3, C3, S3⟩
  have HW3 := Lib.hid (HW.out.chg C3)
  clear D2 C3 S3 HW
  cases b7
  · obtain ⟨⟨y0, y1, y2, y3⟩, ⟨f0, f1, f2, f3⟩, ⟨x0, x1, x2, x3⟩, ⟨v0, v1, v2, v3⟩, HO, HC, HD⟩ := ErW.fin HW3.out D3
    clear HW3
    go_wp2_with (fail)
    generalize ((((w3.setCell ⟨w.heap.size, 0, none⟩ (.slice Aa na ka)).setCell ⟨w.heap.size, 1, none⟩ (.slice (some ⟨gb, 0, none⟩) nb kb)).setCell ⟨w.heap.size, 2, none⟩ (.slice Ac nc kc)).setCell ⟨w.heap.size, 3, none⟩ (.slice (some ⟨gq, 0, none⟩) nq kq)) = W9 at *
    exact bodyPost_ret (v := .agg #[.slice Aa na ka, .slice (some ⟨gb, 0, none⟩) nb kb, .slice Ac nc kc, .slice (some ⟨gq, 0, none⟩) nq kq]) (by simp [results, Tryz.results16, go_sem, v0, v1, v2, v3] <;> rfl) rfl ⟨_, _, _, _, pl, cr, ps, qs, a3, rfl, HO.out, HEN.out.loose, by omega, HD.out, HC.out⟩
  · go_wp2_with (fail)
    refine (pick_s g A n c a3 5 _ D3 hn (by omega) (by omega)).mono ?_; rintro e w4 ⟨r, hr, rfl, a4, h41, h42, D4, C4, S4⟩
    have HW4 := Lib.hid (HW3.out.chg C4)
    have hr5 : r = 0 ∨ r = 1 ∨ r = 2 ∨ r = 3 ∨ r = 4 := by omega
    have a4b : a4 ≤ a + 20000 := by omega
    have hg4 := D4.lt
    have hl2 := HW4.out.l2
    have hobe := HW4.out.o2
    clear D3 C4 S4 HW3 hr h41 h42 h31 h32
    go_upto_block 0 with (fail)
    go_cut [14] from 15 (fun _ wx => ∃ (va vb vc vd : Value) (pl : List (Dsc × Value)) (cr : List Int) (ps qs : List ByteArray) (a' : Nat), Hid (EvM pl cr ps qs) ∧ a' ≤ a + 40000 ∧ DrAt wx g A n c a' ∧ Hid (ErW g w.heap.size be w wx va vb vc vd pl cr ps qs))
    case rest =>
      clear HW4 D4 HEN HNB HNQ
      obtain ⟨va, vb, vc, vd, pl', cr', ps', qs', a', HM, ha', D9, HW9⟩ := hcut
      obtain ⟨A1, n1, k1, rfl⟩ := own_slice HW9.out.ev.ds.o
      obtain ⟨A2, n2, k2, rfl⟩ := own_slice HW9.out.ev.cr
      obtain ⟨A3, n3, k3, rfl⟩ := own_slice HW9.out.ev.p
      obtain ⟨A4, n4, k4, rfl⟩ := own_slice HW9.out.ev.q
      obtain ⟨⟨y0, y1, y2, y3⟩, ⟨f0, f1, f2, f3⟩, ⟨x0, x1, x2, x3⟩, ⟨v0, v1, v2, v3⟩, HO, HC, HD⟩ := ErW.fin HW9.out D9
      clear HW9
      go_wp2_with (fail)
      generalize ((((wc.setCell ⟨w.heap.size, 0, none⟩ (.slice A1 n1 k1)).setCell ⟨w.heap.size, 1, none⟩ (.slice A2 n2 k2)).setCell ⟨w.heap.size, 2, none⟩ (.slice A3 n3 k3)).setCell ⟨w.heap.size, 3, none⟩ (.slice A4 n4 k4)) = W9 at *
      exact bodyPost_ret (v := .agg #[.slice A1 n1 k1, .slice A2 n2 k2, .slice A3 n3 k3, .slice A4 n4 k4]) (by simp [results, Tryz.results16, go_sem, v0, v1, v2, v3] <;> rfl) rfl ⟨_, _, _, _, pl', cr', ps', qs', a', rfl, HO.out, HM.out, by omega, HD.out, HC.out⟩
    case first =>
    rcases hr5 with rfl | rfl | rfl | rfl | rfl
    · have Bd : Below w4.heap.size w4 (w4.drew.alloc (.cells #[.int .i64 (-2), .int .i64 65536] 2)) := Below.alloc (Below.refl w4.heap.size w4).drew (Nat.le_refl _) _
      have HWd := Lib.hid (HW4.out.below (Below.refl w4.heap.size w4).drew)
      have HWL := Lib.hid (HW4.out.below Bd)
      have HWM : Hid (ErW g w.heap.size be w (w4.alloc (.cells #[.int .i64 (-2), .int .i64 65536] 2)).drew (.slice Aa na ka) (.slice (some ⟨gb, 0, none⟩) nb kb) (.slice Ac nc kc) (.slice (some ⟨gq, 0, none⟩) nq kq) pl cr ps qs) := Lib.hid (HW4.out.below (Below.alloc (Below.refl w4.heap.size w4) (Nat.le_refl _) _).drew)
      have HKS : Hid (∀ w' cr', ErW g w.heap.size be w w' (.slice Aa na ka) (.slice (some ⟨gb, 0, none⟩) nb kb) (.slice Ac nc kc) (.slice (some ⟨gq, 0, none⟩) nq kq) pl cr' ps qs → w'.cell? ⟨be, 1, none⟩ = some (.slice (some ⟨gb, 0, none⟩) nb kb)) := Lib.hid fun w' cr' h => h.re 1 _ rfl
      have HAM := Lib.hid (among_s g A n c a4 w4.heap.size 2 [(-2), 65536] (w4.drew.alloc (.cells #[.int .i64 (-2), .int .i64 65536] 2)) (D4.belowK Bd hg4) hn (by omega) (by simp) (by simp) hg4 (by simp) (fun j x hj => by
        match j, hj with
        | 0, hj => simp at hj; subst hj; exact Row.alloc w4.drew #[.int .i64 (-2), .int .i64 65536] 2 0 _ rfl
        | 1, hj => simp at hj; subst hj; exact Row.alloc w4.drew #[.int .i64 (-2), .int .i64 65536] 2 1 _ rfl
        | j + 2, hj => simp at hj))
      have hnb0 : 0 < nb := by omega
      have k1 := HWd.out.re 1 _ rfl
      have kL : (w4.alloc (.cells #[.int .i64 (-2), .int .i64 65536] 2)).cell? ⟨be, 1, none⟩ = some (.slice (some ⟨gb, 0, none⟩) nb kb) := HWL.out.re 1 _ rfl
      clear Bd D4 HW4
      go_wp2_with (fail)
      go_region_held3 (fun w' => w'.cell? ⟨be, 1, none⟩ = some (.slice (some ⟨gb, 0, none⟩) nb kb))
        (first | with_reducible exact HKS.out _ _ HWd.out | with_reducible exact HKS.out _ _ HWL.out | with_reducible exact HKS.out _ _ HWM.out | with_reducible exact HKS.out _ _ HW12.out | with_reducible exact HKS.out _ _ HW13.out)
        (first
          | (go_at_call 38; refine HAM.out.mono ?_; rintro e w12 ⟨x, hx, rfl, a12, h121, h122, D12, C12, S12⟩; have HW12 := Lib.hid (HWL.out.chg C12); obtain ⟨⟨c0, hc0, hcc⟩, fz⟩ := own_at1 icell_len HW12.out.ev.cr HNB.out hcr1; have q0 := hcc _ rfl; have k124 := HW12.out.re 1 _ rfl; have HW13 := Lib.hid (HW12.out.grow (gset (World.grownBy.refl w12 (some gb)) 0 (.int .i64 x)) (fun k hk => by injection hk with hk; omega) (HW12.out.ev.putB (own_set1 icell_len HW12.out.ev.cr HNB.out hcr1 x (.int .i64 x) rfl) (gset (World.grownBy.refl w12 _) _ _) (.inl rfl)))))
      have D13 := D12.setNew (b := gb) (o := 0) (by omega) (.int .i64 x)
      clear q0 fz k1 kL k124 HAM HWd HWL HWM HW12 D12 C12 S12 hcc
      go_wp2_with (fail)
      go_meet
      exact ⟨_, _, _, _, pl, cr.set 0 x, ps, qs, a12, Lib.hid (by have h1 := HEN.out.loose; exact ⟨h1.ds, h1.secs, by rw [List.length_set]; exact h1.cr, h1.p, h1.q, h1.ps, h1.qs⟩), by omega, D13, HW13⟩
    · obtain ⟨s0, si, sz0, sz1, sz2⟩ := info_parts scell_info
      have ba : Below w4.heap.size w4 (w4.alloc (.cells #[.string ({data := #[]} : ByteArray)] 9)) := Below.alloc (Below.refl _ _) (Nat.le_refl _) _
      have HWa := Lib.hid (HW4.out.below ba)
      have Da := D4.belowK ba hg4
      have RA : Row (w4.alloc (.cells #[.string ({data := #[]} : ByteArray)] 9)) w4.heap.size [.string ({data := #[]} : ByteArray)] := Row.alloc w4 _ _
      have hbas : w.heap.size + 1 ≤ ((w4.alloc (.cells #[.string ({data := #[]} : ByteArray)] 9))).heap.size := by have h1 := HWa.out.l2; omega
      have x2 := HW4.out.re 2 _ rfl
      have hpl : ps.length ≤ 64 := HEN.out.p
      go_wp2_with (at_builtin; refine stopQ ?_)
      intro _
      refine wpList_app1at scell 1 scell_len _ rfl _ _ _ rfl (w.heap.size + 1) 9 s0 (.string .empty) 16 Tryz.underlying26 si sz0 sz1 sz2 rfl (by decide) (.slice Ac nc kc) ps rfl HWa.out.ev.p _ 1 ({data := #[]} : ByteArray) rfl RA (by simp [scell, Value.oneCell']) (by omega) (by omega) hbas ?_
      intro v' w12 how hgr hat
      obtain ⟨A3, n3, k3, rfl⟩ := own_slice how
      have hrow : ∀ k, (Value.slice Ac nc kc).ownBlock = some k → w.heap.size + 1 ≤ k ∧ k ≠ be := fun k hk => ⟨(World.ownsRow.lt HWa.out.ev.p k hk).1, fun e0 => by subst e0; exact HWa.out.off (.slice Ac nc kc) (by simp) hk⟩
      have hnb3 := nob_at hat (HWa.out.off (.slice Ac nc kc) (by simp)) HWa.out.l2
      have HW12 := Lib.hid (HWa.out.put hgr hrow (HWa.out.ev.putC how hgr hat) (fun v hv => by
        simp only [List.mem_cons] at hv
        rcases hv with rfl | rfl | rfl | rfl | hv
        · exact HWa.out.off _ (by simp)
        · exact HWa.out.off _ (by simp)
        · exact hnb3
        · exact HWa.out.off _ (by simp)
        · exact HWa.out.off v (by simp only [List.mem_cons]; exact .inr (.inr (.inr (.inr hv))))) (o := 2) (u := .slice A3 n3 k3) (by omega) rfl)
      have x12 := grown_cell hgr HWa.out.l2 (fun e0 => (hrow be e0).2 rfl) (HWa.out.re 2 _ rfl)
      have f12 := grown_frozen hgr HWa.out.l2 (fun e0 => (hrow be e0).2 rfl) HWa.out.fe 2
      have D12 := (Da.grown hgr (fun k hk => by have := (hrow k hk).1; have := HWa.out.og; omega)).setNew (b := be) (o := 2) (by have := HWa.out.og; omega) (.slice A3 n3 k3)
      clear x2 HWa Da RA how hgr hat ba hbas HW4 D4 hrow hnb3
      go_wp2_with (fail)
      go_meet
      exact ⟨_, _, _, _, pl, cr, ps ++ [({data := #[]} : ByteArray)], qs, a4, Lib.hid (by
        have h1 := HEN.out.loose
        refine ⟨h1.ds, h1.secs, h1.cr, by rw [List.length_append]; simp; omega, h1.q, fun s hs => ?_, h1.qs⟩
        rcases List.mem_append.1 hs with hs | hs
        · exact h1.ps s hs
        · obtain rfl : s = ({data := #[]} : ByteArray) := by simpa using hs
          decide), by omega, D12, HW12⟩
    · obtain ⟨⟨c0, hc0, hcc⟩, fz⟩ := own_at1 scell_len HW4.out.ev.q HNQ.out hqs1
      have q0 := hcc _ rfl
      have x3 := HW4.out.re 3 _ rfl
      have hnq0 : 0 < nq := by omega
      have hne : gq ≠ be := by omega
      have HW13 := Lib.hid (HW4.out.grow (gset (World.grownBy.refl w4 (some gq)) 0 (.string ({data := #[120]} : ByteArray))) (fun k hk => by injection hk with hk; omega) (HW4.out.ev.putD (own_set1 scell_len HW4.out.ev.q HNQ.out hqs1 ({data := #[120]} : ByteArray) (.string ({data := #[120]} : ByteArray)) rfl) (gset (World.grownBy.refl w4 _) _ _) (.inl rfl)))
      have D13 := D4.setNew (b := gq) (o := 0) (by have := HW4.out.og; omega) (.string ({data := #[120]} : ByteArray))
      clear hcc HW4 D4
      go_wp2_with (fail)
      go_meet
      exact ⟨_, _, _, _, pl, cr, ps, qs.set 0 ({data := #[120]} : ByteArray), a4, Lib.hid (by
        have h1 := HEN.out.loose
        refine ⟨h1.ds, h1.secs, h1.cr, h1.p, by rw [List.length_set]; exact h1.q, h1.ps, fun s hs => ?_⟩
        rcases List.mem_or_eq_of_mem_set hs with hs | rfl
        · exact h1.qs s hs
        · decide), by omega, D13, HW13⟩
    · obtain ⟨p0, di, dz0, dz1, dz2⟩ := info_parts dpc_info
      have x0 := HW4.out.re 0 _ rfl
      have HWd := Lib.hid (HW4.out.below (Below.refl w4.heap.size w4).drew)
      have HBN := Lib.hid (bent12_s g A n c a4 2 w4.drew (D4.belowK (Below.refl w4.heap.size w4).drew hg4) hn (by omega) (by omega))
      have hl1 : pl.length + 1 ≤ 16777216 := by omega
      have zd : w4.drew.heap.size = w4.heap.size := rfl
      clear HW4 D4
      go_wp2_with (fail)
      go_region_law (first
        | (refine step_appP dpc 5 dpc_len _ (by rfl) _ _ _ (by rfl) (w.heap.size + 1) 32 p0 (.agg #[.int .i64 0, .int .i64 0, .int .i64 0, .int .i64 0, .slice none 0 0]) 56 Tryz.underlying24 di dz0 dz1 dz2 rfl (by decide) (.slice Aa na ka) pl (by rfl) HW7.out.ev.ds.o _ 1 (d, .slice A7 n7 k7) (by rfl) RA7.out (dpc_oneX HO7.out) hl1 (by decide) hbase ?_; intro g6 c6 w12 how6 hg6 hat6; have hat7 : (Value.slice (some ⟨g6, 0, none⟩) (pl.length + 1) c6).ownBlock = (Value.slice Aa na ka).ownBlock ∨ (Value.slice (some ⟨g6, 0, none⟩) (pl.length + 1) c6).ownBlock = some ((w7.alloc (.cells #[.int .i64 d.cyl, .int .i64 d.heads, .int .i64 d.per, .int .i64 d.size, .slice A7 n7 k7] 32))).heap.size := (hat6.elim (fun h1 => .inl h1.symm) (fun h1 => .inr (congrArg some h1))); have HE12 := Lib.hid (HW7.out.ev.putA how6 hg6 hat7 HO7.out HJ7.out.1 HJ7.out.2.1 HJ7.out.2.2.1 HJ7.out.2.2.2); have HN12 := Lib.hid (nob_at hat7 (HW7.out.off (.slice Aa na ka) (by simp)) HW7.out.l2); have HG6 := Lib.hid hg6; have D12 := D11.grown hg6 (fun k hk => by have := (World.ownsRow.lt HW7.out.ev.ds.o k hk).1; have := HW7.out.og; omega); have x12 := grown_cell hg6 HW7.out.l2 (HW7.out.off (.slice Aa na ka) (by simp)) (HW7.out.re 0 _ rfl); have f12 := grown_frozen hg6 HW7.out.l2 (HW7.out.off (.slice Aa na ka) (by simp)) HW7.out.fe 0; clear how6 hg6 hat6 hat7)
        | (go_simp; go_at_call 39; refine HBN.out.mono ?_; rintro e w7 ⟨d, xx, a10, rfl, ho7, hl7, hd7, ha10, D10, C7⟩; obtain ⟨A7, n7, k7, rfl⟩ := own_slice ho7; dsimp only; have X7 := HWd.out.chg C7; have ba : Below w7.heap.size w7 (w7.alloc (.cells #[.int .i64 d.cyl, .int .i64 d.heads, .int .i64 d.per, .int .i64 d.size, .slice A7 n7 k7] 32)) := Below.alloc (Below.refl _ _) (Nat.le_refl _) _; have HW7 := Lib.hid (X7.below ba); have HO7 : Hid (SecOwn (w.heap.size + 1) (w7.alloc (.cells #[.int .i64 d.cyl, .int .i64 d.heads, .int .i64 d.per, .int .i64 d.size, .slice A7 n7 k7] 32)) (.slice A7 n7 k7) d.secs) := Lib.hid (OwnL.below (OwnL.base ho7 (by omega : w.heap.size + 1 ≤ w4.drew.heap.size)) ba); have HJ7 : Hid (Dj (.slice Aa na ka) (.slice A7 n7 k7) ∧ Dj (.slice (some ⟨gb, 0, none⟩) nb kb) (.slice A7 n7 k7) ∧ Dj (.slice Ac nc kc) (.slice A7 n7 k7) ∧ Dj (.slice (some ⟨gq, 0, none⟩) nq kq) (.slice A7 n7 k7)) := Lib.hid ⟨Dj.lt (own_hi HWd.out.ev.ds.o) (own_lo ho7), Dj.lt (own_hi HWd.out.ev.cr) (own_lo ho7), Dj.lt (own_hi HWd.out.ev.p) (own_lo ho7), Dj.lt (own_hi HWd.out.ev.q) (own_lo ho7)⟩; have HN7 : Hid ((Value.slice A7 n7 k7).ownBlock ≠ some be) := Lib.hid (fun e0 => by have h1 := own_lo ho7 be e0; omega); have D11 := D10.belowK ba D10.lt; have RA7 := Lib.hid (Row.alloc w7 #[.int .i64 d.cyl, .int .i64 d.heads, .int .i64 d.per, .int .i64 d.size, .slice A7 n7 k7] 32); have hbase : w.heap.size + 1 ≤ ((w7.alloc (.cells #[.int .i64 d.cyl, .int .i64 d.heads, .int .i64 d.per, .int .i64 d.size, .slice A7 n7 k7] 32))).heap.size := (by have h1 := HW7.out.l2; omega); have x7 := X7.re 0 _ rfl; have x7a : ((w7.alloc (.cells #[.int .i64 d.cyl, .int .i64 d.heads, .int .i64 d.per, .int .i64 d.size, .slice A7 n7 k7] 32))).cell? ⟨be, 0, none⟩ = some (.slice Aa na ka) := HW7.out.re 0 _ rfl; have HS7 : Hid (d.secs.length ≤ 64 ∧ ∀ s ∈ d.secs, s.data.size ≤ 64) := Lib.hid ⟨hl7, hd7⟩; clear X7 ba ho7 hl7 hd7 D10 C7))
      all_goals have HW12 := Lib.hid (HW7.out.put HG6.out (fun k hk => ⟨(World.ownsRow.lt HW7.out.ev.ds.o k hk).1, fun e0 => by subst e0; exact HW7.out.off (.slice Aa na ka) (by simp) hk⟩) HE12.out (fun v hv => by
        simp only [List.mem_cons, List.map_append, List.mem_append, List.map_cons, List.map_nil, List.not_mem_nil, or_false] at hv
        rcases hv with rfl | rfl | rfl | rfl | hv | rfl
        · exact HN12.out
        · exact HW7.out.off _ (by simp)
        · exact HW7.out.off _ (by simp)
        · exact HW7.out.off _ (by simp)
        · exact HW7.out.off v (by simp only [List.mem_cons]; exact .inr (.inr (.inr (.inr hv))))
        · exact HN7.out) (o := 0) (by omega) rfl)
      all_goals clear x0 x7 x7a HO7 HJ7 D11 RA7 HBN HWd HW7 HE12 HN12 HG6 HN7
      all_goals go_wp2_with (fail)
      all_goals go_meet
      all_goals exact ⟨_, _, _, _, pl ++ [(d, .slice A7 n7 k7)], cr, ps, qs, a10, Lib.hid (by
        have h1 := HEN.out.loose
        refine ⟨by rw [List.length_append]; simp; omega, fun p hp => ?_, h1.cr, h1.p, h1.q, h1.ps, h1.qs⟩
        rcases List.mem_append.1 hp with hp | hp
        · exact h1.secs p hp
        · obtain rfl : p = (d, .slice A7 n7 k7) := by simpa using hp
          exact HS7.out), by omega, D12.setNew (by omega) _, HW12⟩
    · have x0 := HW4.out.re 0 _ rfl
      have f0 := HW4.out.fe 0
      have HW13 := Lib.hid (HW4.out.put (World.grownBy.refl w4 none) (fun k hk => nomatch hk) HW4.out.ev.nil (fun v hv => by
        simp only [List.mem_cons, List.map_nil, List.not_mem_nil, or_false] at hv
        rcases hv with rfl | rfl | rfl | rfl
        · exact fun e0 => nomatch e0
        · exact HW4.out.off _ (by simp)
        · exact HW4.out.off _ (by simp)
        · exact HW4.out.off _ (by simp)) (o := 0) (u := .slice none 0 0) (by omega) rfl)
      have D13 := D4.setNew (b := be) (o := 0) (by have := HW4.out.og; omega) (.slice none 0 0)
      clear HW4 D4
      go_wp2_with (fail)
      go_meet
      exact ⟨_, _, _, _, [], cr, ps, qs, a4, Lib.hid (by have h1 := HEN.out.loose; exact ⟨by simp, by simp, h1.cr, h1.p, h1.q, h1.ps, h1.qs⟩), by omega, D13, HW13⟩
end Go.Proofs.YtddihmpiaemadaaGreatDoor
