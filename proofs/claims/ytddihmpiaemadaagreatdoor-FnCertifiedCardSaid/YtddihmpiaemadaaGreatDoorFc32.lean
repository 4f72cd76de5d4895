/- Worlds that keep all blocks but two; lists of drawn discs; drawn evidence. -/
import Derived.Test.YtddihmpiaemadaaGreatDoorFc31
namespace Go.Proofs.YtddihmpiaemadaaGreatDoor
set_option linter.unusedVariables false
set_option linter.unusedSimpArgs false
open Go.RowKit
/-- all blocks but g and b are as they were -/
structure ChX (g b : Nat) (w w' : World) : Prop where
  os : w'.os = w.os
  tape : w'.tape = w.tape
  output : w'.output = w.output
  size : w.heap.size ≤ w'.heap.size
  block : ∀ k, k < w.heap.size → k ≠ g → k ≠ b → w'.heap[k]? = w.heap[k]?
section
variable {g b B : Nat} {w w' w'' : World}
theorem ChX.refl (g b : Nat) (w : World) : ChX g b w w := ⟨rfl, rfl, rfl, Nat.le_refl _, fun _ _ _ _ => rfl⟩
theorem ChX.trans (h : ChX g b w w') (h' : ChX g b w' w'') : ChX g b w w'' :=
  ⟨h'.os.trans h.os, h'.tape.trans h.tape, h'.output.trans h.output, Nat.le_trans h.size h'.size, fun k hk h1 h2 => (h'.block k (Nat.lt_of_lt_of_le hk h.size) h1 h2).trans (h.block k hk h1 h2)⟩
theorem ChX.chg (h : ChX g b w w') (c : Chg g (g + 1) w' w'') : ChX g b w w'' := h.trans ⟨c.os, c.tape, c.output, c.size, fun k hk h1 _ => c.block k hk (by omega)⟩
theorem ChX.below (h : ChX g b w w') (c : Below w'.heap.size w' w'') : ChX g b w w'' := h.chg (Chg.of_below c)
theorem ChX.grown (h : ChX g b w w') {row : Option Nat} (hg : w'.grownBy w'' row) (hr : ∀ k, row = some k → w.heap.size ≤ k) : ChX g b w w'' :=
  ⟨hg.os.trans h.os, hg.tape.trans h.tape, hg.output.trans h.output, Nat.le_trans h.size hg.size, fun k hk h1 h2 => (hg.block k (Nat.lt_of_lt_of_le hk h.size) (by intro e; have := hr k e.symm; omega)).trans (h.block k hk h1 h2)⟩
theorem ChX.setB (h : ChX g b w w') (o : Nat) (u : Value) : ChX g b w (w'.setCell ⟨b, o, none⟩ u) :=
  ⟨h.os, h.tape, h.output, by simpa using h.size, fun k hk h1 h2 => (Below.heap_setCell w' ⟨b, o, none⟩ u k (by intro e; exact h2 e)).trans (h.block k hk h1 h2)⟩
theorem ChX.toChg {w0 : World} (h0 : Chg g (g + 1) w0 w) (hb : w0.heap.size ≤ b) (h : ChX g b w w') : Chg g (g + 1) w0 w' :=
  ⟨h.os.trans h0.os, h.tape.trans h0.tape, h.output.trans h0.output, Nat.le_trans h0.size h.size, fun k hk hne => (h.block k (Nat.lt_of_lt_of_le hk h0.size) (by omega) (by omega)).trans (h0.block k hk hne)⟩
theorem Row.chx {q : Nat} {us : List Value} (h : Row w q us) (c : ChX g b w w') (hl : q < w.heap.size) (h1 : q ≠ g) (h2 : q ≠ b) : Row w' q us := fun j u hu => (World.cell?_of_block (a := ⟨q, j, none⟩) (c.block q hl h1 h2)).trans (h j u hu)
theorem frozen_chx {q : Nat} {v : Bool} (h : ∀ o, w.frozen? ⟨q, o, none⟩ = v) (c : ChX g b w w') (hl : q < w.heap.size) (h1 : q ≠ g) (h2 : q ≠ b) : ∀ o, w'.frozen? ⟨q, o, none⟩ = v := fun o => (World.frozen?_of_block (a := ⟨q, o, none⟩) (c.block q hl h1 h2)).trans (h o)
theorem OwnL.chx {α : Type} {f : α → List Value} {z : Nat} {e : TypeId} {v : Value} {l : List α} (h : OwnL f z e B w v l) (c : ChX g b w w') (hq : ∀ q, v.ownBlock = some q → q ≠ g ∧ q ≠ b) : OwnL f z e B w' v l :=
  OwnL.blk h (fun q hq' => c.block q (World.ownsRow.lt h q hq').2 (hq q hq').1 (hq q hq').2)
theorem OwnL.chxB {α : Type} {f : α → List Value} {z : Nat} {e : TypeId} {v : Value} {l : List α} (h : OwnL f z e B w v l) (c : ChX g b w w') (h1 : g < B) (h2 : b < B) : OwnL f z e B w' v l :=
  h.chx c (fun q hq => by have := (World.ownsRow.lt h q hq).1; omega)
theorem OwnL.chgX {α : Type} {f : α → List Value} {z : Nat} {e : TypeId} {B' E' : Nat} {v : Value} {l : List α} (h : OwnL f z e B w v l) (hc : Chg B' E' w w') (hd : E' ≤ B) : OwnL f z e B w' v l :=
  OwnL.blk h (fun q hq => hc.block q (World.ownsRow.lt h q hq).2 (by have := (World.ownsRow.lt h q hq).1; omega))
end
/-- a box b that is written, in worlds that keep all else but the source's block g -/
structure EbW (g b : Nat) (w0 wx : World) (us : List Value) : Prop where
  ch : ChX g b w0 wx
  row : Row wx b us
  fr : ∀ o, wx.frozen? ⟨b, o, none⟩ = false
  lb : b < w0.heap.size
  lg : g < b
section
variable {g b : Nat} {w0 wx w' : World} {us : List Value}
theorem EbW.lx (h : EbW g b w0 wx us) : b < wx.heap.size := Nat.lt_of_lt_of_le h.lb h.ch.size
theorem EbW.base (h : EbW g b w0 wx us) : EbW g b wx wx us := ⟨ChX.refl _ _ _, h.row, h.fr, h.lx, h.lg⟩
theorem EbW.below (h : EbW g b w0 wx us) (c : Below wx.heap.size wx w') : EbW g b w0 w' us := ⟨h.ch.below c, h.row.below c h.lx, frozen_below h.fr c h.lx, h.lb, h.lg⟩
theorem EbW.chg (h : EbW g b w0 wx us) (c : Chg g (g + 1) wx w') : EbW g b w0 w' us := ⟨h.ch.chg c, h.row.chgIn c h.lx (.inr h.lg), frozen_chg h.fr c h.lx (.inr h.lg), h.lb, h.lg⟩
theorem EbW.grown (h : EbW g b w0 wx us) {row : Option Nat} (c : wx.grownBy w' row) (hr : ∀ k, row = some k → w0.heap.size ≤ k) : EbW g b w0 w' us :=
  ⟨h.ch.grown c hr, grown_row c h.lx (fun e => by have := hr b e; have := h.lb; omega) h.row, grown_frozen c h.lx (fun e => by have := hr b e; have := h.lb; omega) h.fr, h.lb, h.lg⟩
theorem EbW.set (h : EbW g b w0 wx us) {o : Nat} (u : Value) (ho : o < us.length) : EbW g b w0 (wx.setCell ⟨b, o, none⟩ u) (us.set o u) :=
  ⟨h.ch.setB o u, h.row.set u ho, fun o' => by rw [setCell_frozen]; exact h.fr o', h.lb, h.lg⟩
end
/-- two values lie in different blocks -/
def Dj (u v : Value) : Prop := ∀ b, u.ownBlock = some b → v.ownBlock ≠ some b
theorem Dj.symm {u v : Value} (h : Dj u v) : Dj v u := fun b h1 h2 => h b h2 h1
theorem Dj.nil {v : Value} : Dj (.slice none 0 0) v := fun b h => by cases h
theorem Dj.new {u u' v : Value} {N : Nat} (h : Dj u v) (hb : u'.ownBlock = u.ownBlock ∨ u'.ownBlock = some N) (hv : ∀ b, v.ownBlock = some b → b < N) : Dj u' v := fun b h1 h2 => by
  rcases hb with hb | hb
  · exact h b (hb ▸ h1) h2
  · rw [h1] at hb; injection hb with hb; have := hv b h2; omega
theorem Dj.lt {u v : Value} {K : Nat} (h1 : ∀ b, u.ownBlock = some b → b < K) (h2 : ∀ b, v.ownBlock = some b → K ≤ b) : Dj u v := fun b e1 e2 => by have := h1 b e1; have := h2 b e2; omega
theorem dj_kept {u v : Value} (h : Dj u v) : u.ownBlock = none ∨ u.ownBlock ≠ v.ownBlock := by
  cases e : u.ownBlock with
  | none => exact .inl rfl
  | some b => exact .inr fun h' => h b e h'.symm
theorem own_hi {α : Type} {f : α → List Value} {z : Nat} {e : TypeId} {B : Nat} {w : World} {v : Value} {l : List α} (h : OwnL f z e B w v l) : ∀ b, v.ownBlock = some b → b < w.heap.size := fun b hb => (World.ownsRow.lt h b hb).2
theorem own_lo {α : Type} {f : α → List Value} {z : Nat} {e : TypeId} {B : Nat} {w : World} {v : Value} {l : List α} (h : OwnL f z e B w v l) : ∀ b, v.ownBlock = some b → B ≤ b := fun b hb => (World.ownsRow.lt h b hb).1
/-- a list of drawn discs: each one's sectors in a list of its own -/
structure OutL (B : Nat) (W : World) (v : Value) (pl : List (Dsc × Value)) : Prop where
  o : OwnL dpc 5 32 B W v pl
  s : ∀ p ∈ pl, SecOwn B W p.2 p.1.secs ∧ Dj v p.2
section
variable {B g b : Nat} {W W' : World} {v v' vs : Value} {pl : List (Dsc × Value)} {d : Dsc}
theorem OutL.below (h : OutL B W v pl) (c : Below W.heap.size W W') : OutL B W' v pl := ⟨OwnL.below h.o c, fun p hp => ⟨OwnL.below (h.s p hp).1 c, (h.s p hp).2⟩⟩
theorem OutL.chgX {B' E' : Nat} (h : OutL B W v pl) (hc : Chg B' E' W W') (hd : E' ≤ B) : OutL B W' v pl := ⟨OwnL.chgX h.o hc hd, fun p hp => ⟨OwnL.chgX (h.s p hp).1 hc hd, (h.s p hp).2⟩⟩
theorem OutL.chx (h : OutL B W v pl) (c : ChX g b W W') (h1 : g < B) (h2 : b < B) : OutL B W' v pl := ⟨OwnL.chxB h.o c h1 h2, fun p hp => ⟨OwnL.chxB (h.s p hp).1 c h1 h2, (h.s p hp).2⟩⟩
theorem OutL.far {o : Nat} {u : Value} (h : OutL B W v pl) (hb : b < B) : OutL B (W.setCell ⟨b, o, none⟩ u) v pl := ⟨far_set h.o hb, fun p hp => ⟨far_set (h.s p hp).1 hb, (h.s p hp).2⟩⟩
theorem OutL.base {B' : Nat} (h : OutL B W v pl) (hB : B' ≤ B) : OutL B' W v pl := ⟨OwnL.base h.o hB, fun p hp => ⟨OwnL.base (h.s p hp).1 hB, (h.s p hp).2⟩⟩
theorem OutL.snoc (h : OutL B W v pl) (ho : OwnL dpc 5 32 B W' v' (pl ++ [(d, vs)])) (hg : W.grownBy W' v.ownBlock) (hb : v'.ownBlock = v.ownBlock ∨ v'.ownBlock = some W.heap.size) (hs : SecOwn B W vs d.secs) (hd : Dj v vs) : OutL B W' v' (pl ++ [(d, vs)]) := by
  refine ⟨ho, fun p hp => ?_⟩
  have key : ∀ u l, SecOwn B W u l → Dj v u → SecOwn B W' u l ∧ Dj v' u := fun u l h1 h2 => ⟨OwnL.kept h1 hg (dj_kept h2.symm), h2.new hb (fun b hb => (World.ownsRow.lt h1 b hb).2)⟩
  rcases List.mem_append.1 hp with hp | hp
  · exact key _ _ (h.s p hp).1 (h.s p hp).2
  · obtain rfl : p = (d, vs) := by simpa using hp
    exact key _ _ hs hd
theorem OutL.own (h : OutL B W v pl) : DscOwn B W v (pl.map Prod.fst) := by
  obtain ⟨A, c, rfl, hA⟩ := OwnL.shape h.o
  refine ⟨A, c, by rw [List.length_map], ?_⟩
  rcases hA with hA | ⟨g, rfl, hg1, hg2⟩
  · exact .inl (by rw [hA]; rfl)
  · refine .inr ⟨g, rfl, hg1, hg2, fun k e he => ?_⟩
    rw [List.getElem?_map] at he
    obtain ⟨p, hp, rfl⟩ := Option.map_eq_some_iff.1 he
    refine ⟨p.2, (h.s p (List.mem_of_getElem? hp)).1, fun j u hu => ?_⟩
    exact OwnL.cell dpc_len h.o hp (by simpa [dpc, Dsc.ints] using hu)
theorem dpc_oneX {l : List Sec} (h : SecOwn B W v l) : ∀ u ∈ dpc (d, v), u.oneCell' = true := by
  obtain ⟨A, c, rfl, _⟩ := OwnL.shape h
  simp [dpc, Value.oneCell']
end
/-- drawn evidence: its four lists apart -/
structure EvX (B : Nat) (w : World) (va vb vc vd : Value) (pl : List (Dsc × Value)) (cr : List Int) (ps qs : List ByteArray) : Prop where
  ds : OutL B w va pl
  cr : Int64L B w vb cr
  p : StringL B w vc ps
  q : StringL B w vd qs
  ab : Dj va vb
  ac : Dj va vc
  ad : Dj va vd
  bc : Dj vb vc
  bd : Dj vb vd
  cd : Dj vc vd
  pb : ∀ x ∈ pl, Dj x.2 vb ∧ Dj x.2 vc ∧ Dj x.2 vd
theorem EvX.own {B : Nat} {w : World} {va vb vc vd : Value} {pl : List (Dsc × Value)} {cr : List Int} {ps qs : List ByteArray} (h : EvX B w va vb vc vd pl cr ps qs) : EvOwn B w ⟨pl.map Prod.fst, cr, ps, qs⟩ va vb vc vd :=
  ⟨h.ds.own, h.cr, h.p, h.q⟩
/-- the sizes of drawn evidence -/
structure EvN (pl : List (Dsc × Value)) (cr : List Int) (ps qs : List ByteArray) : Prop where
  ds : pl.length ≤ 8
  secs : ∀ p ∈ pl, p.1.secs.length ≤ 64 ∧ ∀ s ∈ p.1.secs, s.data.size ≤ 64
  cr : 1 ≤ cr.length ∧ cr.length ≤ 64
  p : ps.length ≤ 64
  q : 1 ≤ qs.length ∧ qs.length ≤ 64
  ps : ∀ s ∈ ps, s.size ≤ 64
  qs : ∀ s ∈ qs, s.size ≤ 64
theorem mk_small {l : List ByteArray} {m : Nat} (h : ∀ s ∈ l, s.size = m) (hm : m ≤ 64) : ∃ (p q : ByteArray) (c : Int), mkV l = .tuple #[.string p, .string q, .int .i64 c] ∧ p.size ≤ 64 ∧ q.size ≤ 64 := by
  refine ⟨_, _, _, rfl, ?_⟩
  cases hg : groupB l
  · rw [mkR_no hg]; exact ⟨Nat.zero_le _, Nat.zero_le _⟩
  · obtain ⟨s, hs, _, _, _, _, h5⟩ := groupB_size hg
    have hsm := h s (List.mem_of_getElem? hs)
    have hpl := (parF_len (n := s.size) (k := 0) (l := l) (p := List.replicate s.size 0) (q := List.replicate s.size 0) (by simp) (by simp) (fun t ht => .inr (h5 t ht)))
    rw [mkR_yes hg hs]
    exact ⟨by show (strN _).size ≤ 64; rw [strN_size, hpl.1]; omega, by show (strN _).size ≤ 64; rw [strN_size, hpl.2]; omega⟩
end Go.Proofs.YtddihmpiaemadaaGreatDoor
