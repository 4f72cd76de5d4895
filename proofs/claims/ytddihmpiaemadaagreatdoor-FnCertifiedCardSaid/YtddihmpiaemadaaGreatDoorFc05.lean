/- Sectors that no source covers: the plain law. The laws' own helpers over one disc, marks and rows of its box. The helpers of the laws over slices of int64: sizes, copies, comparison, marks. Printed by gen_flat.py. The laws' own helpers over evidence: sizes, copies, comparison. Printed by gen_evd.py. Dumps that are valid, impl and spec: the walks. Evidence that is valid: the plain law. -/
import Derived.Test.YtddihmpiaemadaaGreatDoorFc03
import Derived.Test.YtddihmpiaemadaaGreatDoorFc04
import Derived.Test.YtddihmpiaemadaaGreatDoorFc01
import Derived.Test.YtddihmpiaemadaaGreatDoorFc02
namespace Go.Proofs.YtddihmpiaemadaaGreatDoor
set_option linter.unusedVariables false
set_option linter.unusedSimpArgs false
open Go.RowKit
/-- the kind of the first source of a sector, 0 if there is none -/
def kinN (x : Int) : List Src → Int
  | [] => 0
  | s :: r => if s.sector == x then s.kind else kinN x r
theorem kin_yes {x : Int} {l : List Src} {k : Nat} {s : Src} (hs : l[k]? = some s) (H : Hid (kinN x l = kinN x (l.drop k))) (h : (s.sector == x) = true) : kinN x l = s.kind := by
  obtain ⟨hk, rfl⟩ := List.getElem?_eq_some_iff.1 hs
  rw [H.out, List.drop_eq_getElem_cons hk, kinN, if_pos h]
theorem kin_no {x : Int} {l : List Src} {k : Nat} {s : Src} (hs : l[k]? = some s) (H : Hid (kinN x l = kinN x (l.drop k))) (h : (s.sector == x) = false) : Hid (kinN x l = kinN x (l.drop (k + 1))) := by
  obtain ⟨hk, rfl⟩ := List.getElem?_eq_some_iff.1 hs
  exact Lib.hid (by rw [H.out, List.drop_eq_getElem_cons hk, kinN, if_neg (by rw [h]; decide)])
theorem kin_end {x : Int} {l : List Src} {k : Nat} (hk : l.length ≤ k) (H : Hid (kinN x l = kinN x (l.drop k))) : kinN x l = 0 := by
  rw [H.out, List.drop_of_length_le hk]; rfl
def uncB (l : List Src) (s : Sec) (k : Nat) : Bool := s.state != 3 && kinN k l == 0
def uncN (l : List Src) : Nat → List Sec → List Int
  | _, [] => []
  | k, s :: r => if uncB l s k then (k : Int) :: uncN l (k + 1) r else uncN l (k + 1) r
def uncE (d : Dsc) (l : List Src) : List Int × Int := if discOk d && certOk l then (uncN l 0 d.secs, 0) else ([], 1)
theorem unc_no1 {d : Dsc} {l : List Src} (h : discOk d = false) : uncE d l = ([], 1) := by unfold uncE; rw [h]; rfl
theorem unc_no2 {d : Dsc} {l : List Src} (h : certOk l = false) : uncE d l = ([], 1) := by unfold uncE; rw [h, Bool.and_false]; rfl
theorem unc_ok {d : Dsc} {l : List Src} (h : discOk d = true) (h2 : certOk l = true) : uncE d l = (uncN l 0 d.secs, 0) := by unfold uncE; rw [h, h2]; rfl
theorem un_yes {l : List Src} {ss : List Sec} {k : Nat} {s : Sec} {X acc : List Int} (hs : ss[k]? = some s) (H : Hid (X = acc ++ uncN l k (ss.drop k))) (h : uncB l s k = true) : Hid (X = (acc ++ [(k : Int)]) ++ uncN l (k + 1) (ss.drop (k + 1))) := by
  obtain ⟨hk, rfl⟩ := List.getElem?_eq_some_iff.1 hs
  exact Lib.hid (by rw [H.out, List.drop_eq_getElem_cons hk, uncN, if_pos h, List.append_assoc]; rfl)
theorem un_no {l : List Src} {ss : List Sec} {k : Nat} {s : Sec} {X acc : List Int} (hs : ss[k]? = some s) (H : Hid (X = acc ++ uncN l k (ss.drop k))) (h : uncB l s k = false) : Hid (X = acc ++ uncN l (k + 1) (ss.drop (k + 1))) := by
  obtain ⟨hk, rfl⟩ := List.getElem?_eq_some_iff.1 hs
  exact Lib.hid (by rw [H.out, List.drop_eq_getElem_cons hk, uncN, if_neg (by rw [h]; decide)])
theorem un_end {l : List Src} {ss : List Sec} {k : Nat} {X acc : List Int} (hk : ss.length ≤ k) (H : Hid (X = acc ++ uncN l k (ss.drop k))) : X = acc := by
  rw [H.out, List.drop_of_length_le hk, uncN, List.append_nil]
theorem ub1 {l : List Src} {s : Sec} {k : Nat} (h : s.state = 3) : uncB l s k = false := by unfold uncB; rw [h]; rfl
theorem ub2 {l : List Src} {s : Sec} {k : Nat} (h : (kinN k l == 0) = false) : uncB l s k = false := by unfold uncB; rw [h, Bool.and_false]
theorem ub3 {l : List Src} {s : Sec} {k : Nat} (h1 : ¬ s.state = 3) (h : (kinN k l == 0) = true) : uncB l s k = true := by unfold uncB; rw [h, Bool.and_true]; simpa using h1
end Go.Proofs.YtddihmpiaemadaaGreatDoor
namespace Go.Proofs.YtddihmpiaemadaaGreatDoor
set_option linter.unusedVariables false
set_option linter.unusedSimpArgs false
open Go.RowKit
def Row (w : World) (b : Nat) (us : List Value) : Prop := ∀ j u, us[j]? = some u → w.cell? ⟨b, j, none⟩ = some u
theorem Row.below {w w' : World} {b : Nat} {us : List Value} (h : Row w b us) (hb : Below w.heap.size w w') (hl : b < w.heap.size) : Row w' b us := fun j u hu => (hb.cell (p := ⟨b, j, none⟩) hl).trans (h j u hu)
theorem Row.alloc (w : World) (cs : Array Value) (e : TypeId) : Row (w.alloc (.cells cs e)) w.heap.size cs.toList := by
  intro j u hu
  simp [go_sem]
  simpa using hu
abbrev dscL (d : Dsc) (v : Value) : List Value := [.int .i64 d.cyl, .int .i64 d.heads, .int .i64 d.per, .int .i64 d.size, v]
abbrev OwnD (B E : Nat) (w : World) (v : Value) (l : List Sec) : Prop := RSectorS.own B E w v l
theorem OwnD.of {B : Nat} {w : World} {v : Value} {l : List Sec} (h : SecOwn B w v l) : OwnD B w.heap.size w v l := ⟨h, fun g hg => (World.ownsRow.lt h g hg).2⟩
theorem OwnD.below {B E : Nat} {w w' : World} {v : Value} {l : List Sec} (h : OwnD B E w v l) (hb : Below w.heap.size w w') : OwnD B E w' v l := Rep.keep (R := RSectorS) h hb
theorem OwnD.chg {B E B' E' : Nat} {w w' : World} {v : Value} {l : List Sec} (h : OwnD B E w v l) (hc : Chg B' E' w w') (hd : E ≤ B' ∨ E' ≤ B) : OwnD B E w' v l := RSectorS.chg h hc hd
theorem Row.chg {w w' : World} {b B E : Nat} {us : List Value} (h : Row w b us) (hc : Chg B E w w') (hl : b < w.heap.size) (hd : b < B ∨ E ≤ b) : Row w' b us := fun j u hu => (World.cell?_of_block (a := ⟨b, j, none⟩) (hc.block b hl (by omega))).trans (h j u hu)
abbrev Five (d : Dsc) (v : Value) (b : Nat) (w : World) : Prop := w.cell? ⟨b, 0, none⟩ = some (.int .i64 d.cyl) ∧ w.cell? ⟨b, 1, none⟩ = some (.int .i64 d.heads) ∧ w.cell? ⟨b, 2, none⟩ = some (.int .i64 d.per) ∧ w.cell? ⟨b, 3, none⟩ = some (.int .i64 d.size) ∧ w.cell? ⟨b, 4, none⟩ = some v
end Go.Proofs.YtddihmpiaemadaaGreatDoor
namespace Go.Proofs.YtddihmpiaemadaaGreatDoor
set_option linter.unusedVariables false
set_option linter.unusedSimpArgs false
open Go.RowKit

def icell (e : Int) : List Value := [.int .i64 e]
theorem icell_len (e : Int) : (icell e).length = 1 := rfl
abbrev Int64L (B : Nat) (w : World) (v : Value) (l : List Int) : Prop := OwnL icell 1 2 B w v l
theorem icell_info : (Tryz.prog.info? 2).map (fun i => (i.zero, i.size, i.bytes)) = some (some (.int .i64 0), 1, 8) := by kernel_rfl
theorem Int64L.at_ {B g c k n : Nat} {w : World} {l : List Int} {e : Int} (h : Int64L B w (.slice (some ⟨g, 0, none⟩) n c) l) (hn : l.length = n) (he : l[k]? = some e) : w.cell? ⟨g, k, none⟩ = some (.int .i64 e) := by
  subst hn
  have := OwnL.cell icell_len h he (j := 0) rfl
  simpa using this
def icellM (k : Nat) : Int := ((k : Nat) : Int)
def icellMs (k n : Nat) : List Int := (List.range n).map fun i => icellM (k + i)
def MarkedInt64 (B : Nat) (w : World) (v : Value) (k0 n : Nat) (e : Ending) (w' : World) : Prop :=
  e = .returned (.int .i64 ((k0 + n : Nat) : Int)) ∧ Int64L B w' v (icellMs k0 n) ∧ w.grownBy w' v.ownBlock
/- []int64 in memory -/
def RInt64S : Rep (List Int) := RepL icell 1 2 (fun e => 0) (fun e => True) icellMs
end Go.Proofs.YtddihmpiaemadaaGreatDoor
namespace Go.Proofs.YtddihmpiaemadaaGreatDoor
set_option linter.unusedVariables false
set_option linter.unusedSimpArgs false
open Go.RowKit
structure Evd where
  ds : List Dsc
  cr : List Int
  p : List ByteArray
  q : List ByteArray
abbrev evV (a b c d : Value) : Value := .agg #[a, b, c, d]
abbrev StrIn (w : World) (v : Value) (l : List ByteArray) : Prop := RawL scell 1 w v l ∧ ∀ e ∈ l, e.size ≤ maxLen
theorem RawL.far {α : Type} {f : α → List Value} {z : Nat} {w w' : World} {v : Value} {l : List α} (h : RawL f z w v l) (hb : Below w.heap.size w w') : RawL f z w' v l := h.below hb
/-- evidence that came in -/
structure EvIn (w : World) (e : Evd) (a b c d : Value) : Prop where
  ds : DscIn w a e.ds
  cr : RawL icell 1 w b e.cr
  p : StrIn w c e.p
  q : StrIn w d e.q
theorem EvIn.below {w w' : World} {e : Evd} {a b c d : Value} (h : EvIn w e a b c d) (hb : Below w.heap.size w w') : EvIn w' e a b c d := ⟨h.ds.below hb, h.cr.below hb, ⟨h.p.1.below hb, h.p.2⟩, ⟨h.q.1.below hb, h.q.2⟩⟩
theorem DscOwn.far {B g o : Nat} {w : World} {v u : Value} {l : List Dsc} (h : DscOwn B w v l) (hg : g < B) : DscOwn B (w.setCell ⟨g, o, none⟩ u) v l := by
  obtain ⟨A, c, rfl, hA⟩ := h
  refine ⟨A, c, rfl, ?_⟩
  rcases hA with hA | ⟨k, rfl, hk, hlt, hc⟩
  · exact .inl hA
  · refine .inr ⟨k, rfl, hk, by simpa using hlt, fun i e he => ?_⟩
    obtain ⟨bv, o1, c1⟩ := hc i e he
    exact ⟨bv, far_set o1 hg, fun j u hu => (World.cell?_setCell_other _ _ _ _ (by intro e; injection e with e _ _; omega)).trans (c1 j u hu)⟩
theorem DscOwn.base {B B' : Nat} {w : World} {v : Value} {l : List Dsc} (h : DscOwn B w v l) (hB : B' ≤ B) : DscOwn B' w v l := by
  obtain ⟨A, c, rfl, hA⟩ := h
  refine ⟨A, c, rfl, ?_⟩
  rcases hA with hA | ⟨k, rfl, hk, hlt, hc⟩
  · exact .inl hA
  · refine .inr ⟨k, rfl, Nat.le_trans hB hk, hlt, fun i e he => ?_⟩
    obtain ⟨bv, o1, c1⟩ := hc i e he
    exact ⟨bv, OwnL.base o1 hB, c1⟩
theorem DscOwn.shape {B : Nat} {w : World} {v : Value} {l : List Dsc} (h : DscOwn B w v l) : ∃ A c, v = .slice A l.length c := by
  obtain ⟨A, c, rfl, _⟩ := h
  exact ⟨A, c, rfl⟩
/-- evidence that the call has made -/
structure EvOwn (B : Nat) (w : World) (e : Evd) (a b c d : Value) : Prop where
  ds : DscOwn B w a e.ds
  cr : Int64L B w b e.cr
  p : StringL B w c e.p
  q : StringL B w d e.q
theorem EvOwn.below {B : Nat} {w w' : World} {e : Evd} {a b c d : Value} (h : EvOwn B w e a b c d) (hb : Below w.heap.size w w') : EvOwn B w' e a b c d := ⟨h.ds.below hb, OwnL.below h.cr hb, OwnL.below h.p hb, OwnL.below h.q hb⟩
theorem EvOwn.shape {B : Nat} {w : World} {e : Evd} {a b c d : Value} (h : EvOwn B w e a b c d) : ∃ A n B' k C i D j, a = .slice A e.ds.length n ∧ b = .slice B' e.cr.length k ∧ c = .slice C e.p.length i ∧ d = .slice D e.q.length j := by
  obtain ⟨A, n, h1⟩ := h.ds.shape
  obtain ⟨B', k, h2, _⟩ := OwnL.shape h.cr
  obtain ⟨C, i, h3, _⟩ := OwnL.shape h.p
  obtain ⟨D, j, h4, _⟩ := OwnL.shape h.q
  exact ⟨A, n, B', k, C, i, D, j, h1, h2, h3, h4⟩
def evW (e : Evd) : List Nat := [e.ds.length + Dsc.wts e.ds, e.cr.length, e.p.length + swts e.p, e.q.length + swts e.q]
def evZ (x : Int) (e : Evd) : Int := szR (szR (szR (szR x (e.ds.length + Dsc.wts e.ds)) e.cr.length) (e.p.length + swts e.p)) (e.q.length + swts e.q)
theorem Row.set {w : World} {b : Nat} {us : List Value} (h : Row w b us) {o : Nat} (v : Value) (ho : o < us.length) : Row (w.setCell ⟨b, o, none⟩ v) b (us.set o v) := by
  intro j u hu
  by_cases hj : o = j
  · subst hj
    rw [List.getElem?_set_self ho] at hu
    injection hu with hu
    subst hu
    exact World.cell?_setCell_same _ _ _ (h o _ (List.getElem?_eq_getElem ho))
  · rw [List.getElem?_set_ne hj] at hu
    exact (World.cell?_setCell_other w _ _ v (ne_off hj)).trans (h j u hu)
theorem Row.set_other {w : World} {b g : Nat} {us : List Value} (h : Row w b us) {o : Nat} (v : Value) (hg : b ≠ g) : Row (w.setCell ⟨g, o, none⟩ v) b us := fun j u hu => (World.cell?_setCell_other w _ _ v (fun e => by injection e with e1; exact hg e1.symm)).trans (h j u hu)
theorem setCell_frozen (w : World) (p q : Addr) (u : Value) : (w.setCell p u).frozen? q = w.frozen? q := by simp [go_sem]
theorem setCell_size (w : World) (p : Addr) (u : Value) : (w.setCell p u).heap.size = w.heap.size := by simp [go_sem]
theorem frozen_below {w w' : World} {b : Nat} {v : Bool} (h : ∀ o, w.frozen? ⟨b, o, none⟩ = v) (hb : Below w.heap.size w w') (hl : b < w.heap.size) : ∀ o, w'.frozen? ⟨b, o, none⟩ = v := fun o => (hb.frozen (p := ⟨b, o, none⟩) hl).trans (h o)
end Go.Proofs.YtddihmpiaemadaaGreatDoor
namespace Go.Proofs.YtddihmpiaemadaaGreatDoor
set_option linter.unusedVariables false
set_option linter.unusedSimpArgs false
open Go.RowKit
def sameG (a b : Dsc) : Bool := (((a.cyl == b.cyl) && (a.heads == b.heads)) && (a.per == b.per)) && (a.size == b.size)
def dumpsOk (l : List Dsc) : Bool := match l with
  | [] => false
  | z :: _ => decide (l.length ≤ 5) && l.all fun d => discOk d && sameG d z
theorem du_long {l : List Dsc} (h : 5 < l.length) : dumpsOk l = false := by
  cases l with
  | nil => rfl
  | cons z r => unfold dumpsOk; rw [decide_eq_false (by omega)]; rfl
theorem du_at {l : List Dsc} {z : Dsc} (h : l[0]? = some z) (h5 : l.length ≤ 5) : dumpsOk l = l.all fun d => discOk d && sameG d z := by
  cases l with
  | nil => cases h
  | cons z' r =>
    obtain rfl : z' = z := by simpa using h
    unfold dumpsOk; rw [decide_eq_true h5]; simp only [Bool.true_and]
theorem du_yes {l : List Dsc} {k : Nat} {e z : Dsc} {X : Bool} (he : l[k]? = some e) (H : Hid (X = (l.drop k).all fun d => discOk d && sameG d z)) (h : (discOk e && sameG e z) = true) : Hid (X = (l.drop (k + 1)).all fun d => discOk d && sameG d z) := by
  obtain ⟨hk, rfl⟩ := List.getElem?_eq_some_iff.1 he
  exact Lib.hid (by rw [H.out, List.drop_eq_getElem_cons hk, List.all_cons, h, Bool.true_and])
theorem du_no {l : List Dsc} {k : Nat} {e z : Dsc} {X : Bool} (he : l[k]? = some e) (H : Hid (X = (l.drop k).all fun d => discOk d && sameG d z)) (h : (discOk e && sameG e z) = false) : X = false := by
  obtain ⟨hk, rfl⟩ := List.getElem?_eq_some_iff.1 he
  rw [H.out, List.drop_eq_getElem_cons hk, List.all_cons, h, Bool.false_and]
theorem du_end {l : List Dsc} {k : Nat} {z : Dsc} {X : Bool} (hk : l.length ≤ k) (H : Hid (X = (l.drop k).all fun d => discOk d && sameG d z)) : X = true := by
  rw [H.out, List.drop_of_length_le hk]; rfl
theorem size_dsc (A : Option Addr) (n c : Nat) (w : World) (hn : n ≤ 1048576) : Calls Tryz.prog 60 #[.slice A n c] w fun e w' => e = .returned (.int .i64 n) ∧ w = w' := by
  go_enter Tryz.func60, Tryz.ntmps60
  go_wp2
  go_ret
  exact ⟨rfl, rfl⟩
set_option maxHeartbeats 2000000 in
theorem same_i (a b : Dsc) (Aa Ab : Option Addr) (na ca nb cb : Nat) (w : World) : Calls Tryz.prog 58 #[dscV a (.slice Aa na ca), dscV b (.slice Ab nb cb)] w fun e w' => e = .returned (.bool (sameG a b)) ∧ Below w.heap.size w w' := by
  unfold sameG
  cases h1 : (a.cyl == b.cyl)
  · go_enter Tryz.func58, Tryz.ntmps58
    go_wp2
    go_ret
    exact ⟨rfl, (by repeat (first | exact Below.refl _ _ | refine Below.alloc ?_ (by first | omega | (simp; done) | (simp; omega)) _ | apply Below.drew | apply below_drewN | refine Below.setCell ?_ (by first | omega | (simp; done) | (simp; omega)) _ | refine Below.trans ?_ (Below.mono (by assumption) (by first | omega | (simp; done) | (simp; omega)))))⟩
  · cases h2 : (a.heads == b.heads)
    · go_enter Tryz.func58, Tryz.ntmps58
      go_wp2
      go_ret
      exact ⟨rfl, (by repeat (first | exact Below.refl _ _ | refine Below.alloc ?_ (by first | omega | (simp; done) | (simp; omega)) _ | apply Below.drew | apply below_drewN | refine Below.setCell ?_ (by first | omega | (simp; done) | (simp; omega)) _ | refine Below.trans ?_ (Below.mono (by assumption) (by first | omega | (simp; done) | (simp; omega)))))⟩
    · cases h3 : (a.per == b.per)
      · go_enter Tryz.func58, Tryz.ntmps58
        go_wp2
        go_ret
        exact ⟨rfl, (by repeat (first | exact Below.refl _ _ | refine Below.alloc ?_ (by first | omega | (simp; done) | (simp; omega)) _ | apply Below.drew | apply below_drewN | refine Below.setCell ?_ (by first | omega | (simp; done) | (simp; omega)) _ | refine Below.trans ?_ (Below.mono (by assumption) (by first | omega | (simp; done) | (simp; omega)))))⟩
      · cases h4 : (a.size == b.size)
        · go_enter Tryz.func58, Tryz.ntmps58
          go_wp2
          go_ret
          exact ⟨rfl, (by repeat (first | exact Below.refl _ _ | refine Below.alloc ?_ (by first | omega | (simp; done) | (simp; omega)) _ | apply Below.drew | apply below_drewN | refine Below.setCell ?_ (by first | omega | (simp; done) | (simp; omega)) _ | refine Below.trans ?_ (Below.mono (by assumption) (by first | omega | (simp; done) | (simp; omega)))))⟩
        · go_enter Tryz.func58, Tryz.ntmps58
          go_wp2
          go_ret
          exact ⟨rfl, (by repeat (first | exact Below.refl _ _ | refine Below.alloc ?_ (by first | omega | (simp; done) | (simp; omega)) _ | apply Below.drew | apply below_drewN | refine Below.setCell ?_ (by first | omega | (simp; done) | (simp; omega)) _ | refine Below.trans ?_ (Below.mono (by assumption) (by first | omega | (simp; done) | (simp; omega)))))⟩
set_option maxRecDepth 20000 in
set_option maxHeartbeats 4000000 in
theorem dumps_i (B : Nat) (l : List Dsc) (v : Value) (w : World) (h : DscOwn B w v l) (hn : l.length ≤ 1048576) (hb2 : ∀ d ∈ l, d.secs.length ≤ 1048576) (hm : ∀ d ∈ l, ∀ s ∈ d.secs, s.data.size ≤ maxLen) :
    Calls Tryz.prog 40 #[v] w fun e w' => e = .returned (.bool (dumpsOk l)) ∧ Below w.heap.size w w' := by
  obtain ⟨A, c, rfl, hA⟩ := h
  by_cases hlen : 1 ≤ l.length ∧ l.length ≤ 5
  · obtain ⟨g, rfl, _, hg, hc⟩ := hA.resolve_left (by rintro rfl; simp at hlen)
    have b0 : inB l.length 1 5 = true := inB_t (by omega)
    obtain ⟨z, hz⟩ : ∃ z, l[0]? = some z := ⟨l[0]'(by omega), List.getElem?_eq_getElem (by omega)⟩
    have HF := Lib.hid (du_at hz hlen.2)
    obtain ⟨bz, o0, cz⟩ := hc 0 z hz
    obtain ⟨Az, ccz, rfl, _⟩ := OwnL.shape o0
    have HC := Lib.hid hc
    have HZ : Hid (∀ (j : Nat) (u : Value), (z.ints ++ [.slice Az z.secs.length ccz])[j]? = some u → w.cell? ⟨g, j, none⟩ = some u) := Lib.hid (fun j u hu => by have := cz j u hu; simpa using this)
    clear hA hc cz o0 hz
    go_enter Tryz.func40, Tryz.ntmps40
    go_wp2_with (first | (go_at_call 41; refine (within_i _ _ _ _).mono ?_; rintro e w1 ⟨rfl, rfl⟩) | (go_at_call 60; refine (size_dsc _ _ _ _ hn).mono ?_; rintro e w1 ⟨rfl, rfl⟩))
    go_loopw [11] (fun i wr => ∃ k : Nat, k ≤ l.length ∧ i = .int .i64 k ∧ Below w.heap.size w wr ∧ Hid (dumpsOk l = (l.drop k).all fun d => discOk d && sameG d z)) (fun i _ => l.length - (intOf i).toNat)
    case atStart => exact ⟨0, by omega, rfl, Below.refl _ _, HF⟩
    case round =>
      obtain ⟨k, hk, rfl, hb, HK⟩ := hrel
      have zr := hb.size
      by_cases hlt : k < l.length
      · obtain ⟨e, he⟩ : ∃ e, l[k]? = some e := ⟨l[k], List.getElem?_eq_getElem hlt⟩
        obtain ⟨bv, o1, c1⟩ := HC.out k e he
        have PC := fun (j : Nat) (u : Value) (hu : (e.ints ++ [bv])[j]? = some u) => (hb.cell (p := ⟨g, k * 5 + j, none⟩) hg).trans (c1 j u hu)
        have p0 : wr.cell? ⟨g, k * 5, none⟩ = some (.int .i64 e.cyl) := PC 0 _ rfl
        have p1 := PC 1 _ rfl
        have p2 := PC 2 _ rfl
        have p3 := PC 3 _ rfl
        have p4 := PC 4 _ rfl
        have hmem := List.mem_of_getElem? he
        obtain ⟨A2, c2, rfl, _⟩ := OwnL.shape o1
        have cpB : Below w.heap.size w (wr.alloc (.cells #[.int .i64 e.cyl, .int .i64 e.heads, .int .i64 e.per, .int .i64 e.size, .slice A2 e.secs.length c2] 32)) := Below.alloc hb zr _
        have HD : Hid (∀ x : Wb (wr.alloc (.cells #[.int .i64 e.cyl, .int .i64 e.heads, .int .i64 e.per, .int .i64 e.size, .slice A2 e.secs.length c2] 32)), Calls Tryz.prog 20 #[dscV e (.slice A2 e.secs.length c2)] x.1 fun e' w' => e' = .returned (.bool (discOk e)) ∧ Below x.1.heap.size x.1 w') := Lib.hid (fun x => disc_i B e _ x.1 (OwnL.below (OwnL.below o1 cpB) x.2) (hb2 e hmem) (hm e hmem))
        have HG : Hid (∀ x : Wb (wr.alloc (.cells #[.int .i64 e.cyl, .int .i64 e.heads, .int .i64 e.per, .int .i64 e.size, .slice A2 e.secs.length c2] 32)), Calls Tryz.prog 58 #[dscV e (.slice A2 e.secs.length c2), dscV z (.slice Az z.secs.length ccz)] x.1 fun e' w' => e' = .returned (.bool (sameG e z)) ∧ Below x.1.heap.size x.1 w') := Lib.hid (fun x => same_i e z _ _ _ _ _ _ x.1)
        have QZ := fun (j : Nat) (u : Value) (hu : (z.ints ++ [.slice Az z.secs.length ccz])[j]? = some u) (x : Wb (wr.alloc (.cells #[.int .i64 e.cyl, .int .i64 e.heads, .int .i64 e.per, .int .i64 e.size, .slice A2 e.secs.length c2] 32))) => Wb.cell (b := g) (o := j) ((World.cell?_alloc_old _ _ _ (by show g ≠ wr.heap.size; omega)).trans ((hb.cell (p := ⟨g, j, none⟩) hg).trans (HZ.out j u hu))) x
        have y0 := QZ 0 _ rfl
        have y1 := QZ 1 _ rfl
        have y2 := QZ 2 _ rfl
        have y3 := QZ 3 _ rfl
        have y4 := QZ 4 _ rfl
        have e0 : ∀ x : Wb (wr.alloc (.cells #[.int .i64 e.cyl, .int .i64 e.heads, .int .i64 e.per, .int .i64 e.size, .slice A2 e.secs.length c2] 32)), x.1.cell? ⟨wr.heap.size, 0, none⟩ = some (.int .i64 e.cyl) := fun x => Wb.cell (by simp) x
        have e1 : ∀ x : Wb (wr.alloc (.cells #[.int .i64 e.cyl, .int .i64 e.heads, .int .i64 e.per, .int .i64 e.size, .slice A2 e.secs.length c2] 32)), x.1.cell? ⟨wr.heap.size, 1, none⟩ = some (.int .i64 e.heads) := fun x => Wb.cell (by simp) x
        have e2 : ∀ x : Wb (wr.alloc (.cells #[.int .i64 e.cyl, .int .i64 e.heads, .int .i64 e.per, .int .i64 e.size, .slice A2 e.secs.length c2] 32)), x.1.cell? ⟨wr.heap.size, 2, none⟩ = some (.int .i64 e.per) := fun x => Wb.cell (by simp) x
        have e3 : ∀ x : Wb (wr.alloc (.cells #[.int .i64 e.cyl, .int .i64 e.heads, .int .i64 e.per, .int .i64 e.size, .slice A2 e.secs.length c2] 32)), x.1.cell? ⟨wr.heap.size, 3, none⟩ = some (.int .i64 e.size) := fun x => Wb.cell (by simp) x
        have e4 : ∀ x : Wb (wr.alloc (.cells #[.int .i64 e.cyl, .int .i64 e.heads, .int .i64 e.per, .int .i64 e.size, .slice A2 e.secs.length c2] 32)), x.1.cell? ⟨wr.heap.size, 4, none⟩ = some (.slice A2 e.secs.length c2) := fun x => Wb.cell (by simp) x
        have HE := Lib.hid he
        have hl0 : 0 < l.length := by omega
        clear o1 c1 PC QZ he
        cases h1 : discOk e
        · have HN := du_no (z := z) HE.out HK (by rw [h1]; rfl)
          go_wp2_with (fail)
          refine wp_region_wb (by kernel_rfl) (by kernel_rfl) ?_; (repeat (go_big_quiet_step (first | (go_at_call 20; exact Wb.calls (HD.out _)) | (go_at_call 58; exact Wb.calls (HG.out _))))); refine wpQuiet_nil ?_; rintro w1 ⟨⟨w1', hb1⟩, rfl⟩
          go_wp2
          go_ret
          exact ⟨ret_bool HN.symm, cpB.trans (hb1.mono (by simp; omega))⟩
        · cases h2 : sameG e z
          · have HN := du_no (z := z) HE.out HK (by rw [h1, h2]; rfl)
            go_wp2_with (fail)
            refine wp_region_wb (by kernel_rfl) (by kernel_rfl) ?_; (repeat (go_big_quiet_step (first | (go_at_call 20; exact Wb.calls (HD.out _)) | (go_at_call 58; exact Wb.calls (HG.out _))))); refine wpQuiet_nil ?_; rintro w1 ⟨⟨w1', hb1⟩, rfl⟩
            go_wp2
            go_ret
            exact ⟨ret_bool HN.symm, cpB.trans (hb1.mono (by simp; omega))⟩
          · have HN := du_yes (z := z) HE.out HK (by rw [h1, h2]; rfl)
            go_wp2_with (fail)
            refine wp_region_wb (by kernel_rfl) (by kernel_rfl) ?_; (repeat (go_big_quiet_step (first | (go_at_call 20; exact Wb.calls (HD.out _)) | (go_at_call 58; exact Wb.calls (HG.out _))))); refine wpQuiet_nil ?_; rintro w1 ⟨⟨w1', hb1⟩, rfl⟩
            go_wp2
            go_roundw
            case rel => exact ⟨k + 1, by omega, by go_num, cpB.trans (hb1.mono (by simp; omega)), HN⟩
            case measure => simp [intOf]; omega
      · go_wp2
        go_ret
        exact ⟨ret_bool (du_end (by omega) HK).symm, hb⟩
  · have b0 : inB l.length 1 5 = false := inB_f (by omega)
    have HF : Hid (dumpsOk l = false) := Lib.hid (by
      by_cases h : 5 < l.length
      · exact du_long h
      · obtain rfl : l = [] := List.eq_nil_of_length_eq_zero (by omega)
        rfl)
    clear hA
    go_enter Tryz.func40, Tryz.ntmps40
    go_wp2_with (first | (go_at_call 41; refine (within_i _ _ _ _).mono ?_; rintro e w1 ⟨rfl, rfl⟩) | (go_at_call 60; refine (size_dsc _ _ _ _ hn).mono ?_; rintro e w1 ⟨rfl, rfl⟩))
    go_ret
    exact ⟨ret_bool HF.out.symm, Below.refl _ _⟩
end Go.Proofs.YtddihmpiaemadaaGreatDoor
namespace Go.Proofs.YtddihmpiaemadaaGreatDoor
set_option linter.unusedVariables false
set_option linter.unusedSimpArgs false
open Go.RowKit
def crcR (x : Int) : Bool := inB x (-1) 65535
def parB (n : Nat) (s : ByteArray) : Bool := decide (s.size = 0) || decide (s.size = n)
def parOk (z : Dsc) (l : List ByteArray) : Bool := ((l.length : Int) == z.cyl * z.heads) && l.all (parB (szN z.size))
def evR (z : Dsc) (e : Evd) : Bool := (e.cr.length == z.secs.length) && (e.cr.all crcR && (parOk z e.p && parOk z e.q))
def evOk (e : Evd) : Bool := dumpsOk e.ds && evR (e.ds.headD default) e
theorem ev_no0 {e : Evd} (h : dumpsOk e.ds = false) : evOk e = false := by unfold evOk; rw [h, Bool.false_and]
theorem ev_at {e : Evd} {z : Dsc} (h : dumpsOk e.ds = true) (hz : e.ds[0]? = some z) : evOk e = evR z e := by
  have : e.ds.headD default = z := by
    cases hd : e.ds with
    | nil => rw [hd] at hz; cases hz
    | cons a r => rw [hd] at hz; simpa using hz
  unfold evOk; rw [h, this, Bool.true_and]
theorem ev_no1 {z : Dsc} {e : Evd} {X : Bool} (H : X = evR z e) (h : ¬ e.cr.length = z.secs.length) : X = false := by
  rw [H]; unfold evR; rw [show (e.cr.length == z.secs.length) = false by simpa using h, Bool.false_and]
theorem ev_yes1 {z : Dsc} {e : Evd} {X : Bool} (H : X = evR z e) (h : e.cr.length = z.secs.length) : X = (e.cr.all crcR && (parOk z e.p && parOk z e.q)) := by
  rw [H]; unfold evR; rw [show (e.cr.length == z.secs.length) = true by simpa using h, Bool.true_and]
theorem al_yes {α : Type} {f : α → Bool} {l : List α} {k : Nat} {s : α} {X R : Bool} (hs : l[k]? = some s) (H : Hid (X = ((l.drop k).all f && R))) (h : f s = true) : Hid (X = ((l.drop (k + 1)).all f && R)) := by
  obtain ⟨hk, rfl⟩ := List.getElem?_eq_some_iff.1 hs
  exact Lib.hid (by rw [H.out, List.drop_eq_getElem_cons hk, List.all_cons, h, Bool.true_and])
theorem al_no {α : Type} {f : α → Bool} {l : List α} {k : Nat} {s : α} {X R : Bool} (hs : l[k]? = some s) (H : Hid (X = ((l.drop k).all f && R))) (h : f s = false) : X = false := by
  obtain ⟨hk, rfl⟩ := List.getElem?_eq_some_iff.1 hs
  rw [H.out, List.drop_eq_getElem_cons hk, List.all_cons, h, Bool.false_and, Bool.false_and]
theorem al_end {α : Type} {f : α → Bool} {l : List α} {k : Nat} {X R : Bool} (hk : l.length ≤ k) (H : Hid (X = ((l.drop k).all f && R))) : X = R := by
  rw [H.out, List.drop_of_length_le hk]; rfl
theorem pr_no {z : Dsc} {l : List ByteArray} {X R : Bool} (H : X = (parOk z l && R)) (h : ((l.length : Int) == z.cyl * z.heads) = false) : X = false := by
  rw [H]; unfold parOk; rw [h, Bool.false_and, Bool.false_and]
theorem pr_yes {z : Dsc} {l : List ByteArray} {X R : Bool} (H : X = (parOk z l && R)) (h : ((l.length : Int) == z.cyl * z.heads) = true) : Hid (X = ((l.drop 0).all (parB (szN z.size)) && R)) := by
  refine Lib.hid ?_
  rw [H]; unfold parOk; rw [h, Bool.true_and, List.drop_zero]
theorem dps_first {l : List Dsc} (h : dumpsOk l = true) : ∃ z, l[0]? = some z := by
  cases l with
  | nil => cases h
  | cons z r => exact ⟨z, rfl⟩
theorem dps_ok {l : List Dsc} {z : Dsc} (h : dumpsOk l = true) (hz : l[0]? = some z) : discOk z = true := by
  cases l with
  | nil => cases hz
  | cons a r =>
    by_cases h5 : (a :: r).length ≤ 5
    · rw [du_at hz h5] at h
      have := List.all_eq_true.1 h z (List.mem_of_getElem? hz)
      rw [Bool.and_eq_true] at this
      exact this.1
    · rw [du_long (by omega)] at h; cases h
theorem disc_geo {d : Dsc} (h : discOk d = true) : geoB d.cyl d.heads d.per d.size = true := by
  cases hg : geoB d.cyl d.heads d.per d.size
  · rw [dk_no1 hg] at h; cases h
  · rfl
/-- what a slice of strings holds -/
def StrAt (w : World) (A : Option Addr) (l : List ByteArray) : Prop := l = [] ∨ ∃ g, A = some ⟨g, 0, none⟩ ∧ g < w.heap.size ∧ ∀ (k : Nat) (s : ByteArray), l[k]? = some s → w.cell? ⟨g, k, none⟩ = some (.string s)
theorem StrAt.of {B c n : Nat} {w : World} {A : Option Addr} {l : List ByteArray} (h : StringL B w (.slice A n c) l) (hn : l.length = n) : StrAt w A l := by
  subst hn
  obtain ⟨A', c', e, hA⟩ := OwnL.shape h
  injection e with e1 _ _
  subst e1
  by_cases hl0 : l = []
  · exact .inl hl0
  · obtain ⟨g, rfl, _, hg⟩ := hA.resolve_left hl0
    exact .inr ⟨g, rfl, hg, fun k s hk => StringL.at_ h rfl hk⟩
theorem StrAt.below {w w' : World} {A : Option Addr} {l : List ByteArray} (h : StrAt w A l) (hb : Below w.heap.size w w') : StrAt w' A l := by
  rcases h with h | ⟨g, rfl, hg, hc⟩
  · exact .inl h
  · exact .inr ⟨g, rfl, Nat.lt_of_lt_of_le hg hb.size, fun k s hk => (hb.cell (p := ⟨g, _, none⟩) hg).trans (hc k s hk)⟩
theorem par_empty {n : Nat} {s : ByteArray} (h : s.size = 0) : parB n s = true := by unfold parB; rw [decide_eq_true h, Bool.true_or]
theorem par_same {n : Nat} {s : ByteArray} (h : s.size = n) : parB n s = true := by unfold parB; rw [decide_eq_true h, Bool.or_true]
theorem par_bad {n : Nat} {s : ByteArray} (h : ¬ s.size = 0) (h2 : ¬ s.size = n) : parB n s = false := by unfold parB; rw [decide_eq_false h, decide_eq_false h2]; rfl
theorem size_str (A : Option Addr) (n c : Nat) (w : World) (hn : n ≤ 1048576) : Calls Tryz.prog 42 #[.slice A n c] w fun e w' => e = .returned (.int .i64 n) ∧ w = w' := by
  go_enter Tryz.func42, Tryz.ntmps42
  go_wp2
  go_ret
  exact ⟨rfl, rfl⟩
end Go.Proofs.YtddihmpiaemadaaGreatDoor
