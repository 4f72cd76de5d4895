/- Evidence that is valid: the plain law. -/
import Derived.Test.YtjkfkjbakokjeaaHEvd
import Derived.Test.YtjkfkjbakokjeaaVDumps
namespace Go.Proofs.Ytjkfkjbakokjeaa
set_option linter.unusedVariables false
open Go.RowKit
def crcB (x : Int) : Bool := inB x (-1) 65535
def parB (n : Nat) (s : ByteArray) : Bool := decide (s.size = 0) || decide (s.size = n)
def parOk (z : Dsc) (l : List ByteArray) : Bool := ((l.length : Int) == z.cyl * z.heads) && l.all (parB (szN z.size))
def evR (z : Dsc) (e : Evd) : Bool := (e.cr.length == z.secs.length) && (e.cr.all crcB && (parOk z e.p && parOk z e.q))
def evOk (e : Evd) : Bool := dumpsOk e.ds && evR (e.ds.headD default) e
theorem ev_no0 {e : Evd} (h : dumpsOk e.ds = false) : evOk e = false := by unfold evOk; rw [h, Bool.false_and]
theorem ev_at {e : Evd} {z : Dsc} (h : dumpsOk e.ds = true) (hz : e.ds[0]? = some z) : evOk e = evR z e := by
  have : e.ds.headD default = z := by
    cases hd : e.ds with
    | nil => rw [hd] at hz; cases hz
    | cons a r => rw [hd] at hz; simpa using hz
  unfold evOk; rw [h, this, Bool.true_and]
theorem ev_no1 {z : Dsc} {e : Evd} {X : Bool} (H : X = evR z e) (h : ¬ e.cr.length = z.secs.length) : X = false := by
  rw [H]; unfold evR; rw [show (e.cr.length == z.secs.length) = false by simpa using h, Bool.false_and]
theorem ev_yes1 {z : Dsc} {e : Evd} {X : Bool} (H : X = evR z e) (h : e.cr.length = z.secs.length) : X = (e.cr.all crcB && (parOk z e.p && parOk z e.q)) := by
  rw [H]; unfold evR; rw [show (e.cr.length == z.secs.length) = true by simpa using h, Bool.true_and]
theorem al_yes {α : Type} {f : α → Bool} {l : List α} {k : Nat} {s : α} {X R : Bool} (hs : l[k]? = some s) (H : Hid (X = ((l.drop k).all f && R))) (h : f s = true) : Hid (X = ((l.drop (k + 1)).all f && R)) := by
  obtain ⟨hk, rfl⟩ := List.getElem?_eq_some_iff.1 hs
  exact Lib.hid (by rw [H.out, List.drop_eq_getElem_cons hk, List.all_cons, h, Bool.true_and])
theorem al_no {α : Type} {f : α → Bool} {l : List α} {k : Nat} {s : α} {X R : Bool} (hs : l[k]? = some s) (H : Hid (X = ((l.drop k).all f && R))) (h : f s = false) : X = false := by
  obtain ⟨hk, rfl⟩ := List.getElem?_eq_some_iff.1 hs
  rw [H.out, List.drop_eq_getElem_cons hk, List.all_cons, h, Bool.false_and, Bool.false_and]
theorem al_end {α : Type} {f : α → Bool} {l : List α} {k : Nat} {X R : Bool} (hk : l.length ≤ k) (H : Hid (X = ((l.drop k).all f && R))) : X = R := by
  rw [H.out, List.drop_of_length_le hk]; rfl
theorem pr_no {z : Dsc} {l : List ByteArray} {X R : Bool} (H : X = (parOk z l && R)) (h : ((l.length : Int) == z.cyl * z.heads) = false) : X = false := by
  rw [H]; unfold parOk; rw [h, Bool.false_and, Bool.false_and]
theorem pr_yes {z : Dsc} {l : List ByteArray} {X R : Bool} (H : X = (parOk z l && R)) (h : ((l.length : Int) == z.cyl * z.heads) = true) : Hid (X = ((l.drop 0).all (parB (szN z.size)) && R)) := by
  refine Lib.hid ?_
  rw [H]; unfold parOk; rw [h, Bool.true_and, List.drop_zero]
theorem dps_first {l : List Dsc} (h : dumpsOk l = true) : ∃ z, l[0]? = some z := by
  cases l with
  | nil => cases h
  | cons z r => exact ⟨z, rfl⟩
theorem dps_ok {l : List Dsc} {z : Dsc} (h : dumpsOk l = true) (hz : l[0]? = some z) : discOk z = true := by
  cases l with
  | nil => cases hz
  | cons a r =>
    by_cases h5 : (a :: r).length ≤ 5
    · rw [du_at hz h5] at h
      have := List.all_eq_true.1 h z (List.mem_of_getElem? hz)
      rw [Bool.and_eq_true] at this
      exact this.1
    · rw [du_long (by omega)] at h; cases h
theorem disc_geo {d : Dsc} (h : discOk d = true) : geoB d.cyl d.heads d.per d.size = true := by
  cases hg : geoB d.cyl d.heads d.per d.size
  · rw [dk_no1 hg] at h; cases h
  · rfl
/-- what a slice of strings holds -/
def StrAt (w : World) (A : Option Addr) (l : List ByteArray) : Prop := l = [] ∨ ∃ g, A = some ⟨g, 0, none⟩ ∧ g < w.heap.size ∧ ∀ (k : Nat) (s : ByteArray), l[k]? = some s → w.cell? ⟨g, k, none⟩ = some (.string s)
theorem StrAt.of {B c n : Nat} {w : World} {A : Option Addr} {l : List ByteArray} (h : StringL B w (.slice A n c) l) (hn : l.length = n) : StrAt w A l := by
  subst hn
  obtain ⟨A', c', e, hA⟩ := OwnL.shape h
  injection e with e1 _ _
  subst e1
  by_cases hl0 : l = []
  · exact .inl hl0
  · obtain ⟨g, rfl, _, hg⟩ := hA.resolve_left hl0
    exact .inr ⟨g, rfl, hg, fun k s hk => StringL.at_ h rfl hk⟩
theorem StrAt.below {w w' : World} {A : Option Addr} {l : List ByteArray} (h : StrAt w A l) (hb : Below w.heap.size w w') : StrAt w' A l := by
  rcases h with h | ⟨g, rfl, hg, hc⟩
  · exact .inl h
  · exact .inr ⟨g, rfl, Nat.lt_of_lt_of_le hg hb.size, fun k s hk => (hb.cell (p := ⟨g, _, none⟩) hg).trans (hc k s hk)⟩
theorem par_empty {n : Nat} {s : ByteArray} (h : s.size = 0) : parB n s = true := by unfold parB; rw [decide_eq_true h, Bool.true_or]
theorem par_same {n : Nat} {s : ByteArray} (h : s.size = n) : parB n s = true := by unfold parB; rw [decide_eq_true h, Bool.or_true]
theorem par_bad {n : Nat} {s : ByteArray} (h : ¬ s.size = 0) (h2 : ¬ s.size = n) : parB n s = false := by unfold parB; rw [decide_eq_false h, decide_eq_false h2]; rfl
theorem emp_yes {s : ByteArray} (h : s.size = 0) : (s.toList != []) = false := by
  have : s.toList = [] := by rw [ByteArray.toList_eq]; exact List.eq_nil_of_length_eq_zero (by simpa using h)
  rw [this]; rfl
theorem emp_no {s : ByteArray} (h : ¬ s.size = 0) : (s.toList != []) = true := by
  rw [bne_iff_ne]
  intro e
  rw [ByteArray.toList_eq] at e
  exact h (by have := congrArg List.length e; simpa using this)
theorem size_str (A : Option Addr) (n c : Nat) (w : World) (hn : n ≤ 1048576) : Calls Try.prog 51 #[.slice A n c] w fun e w' => e = .returned (.int .i64 n) ∧ w = w' := by
  go_enter Try.func51, Try.ntmps51
  go_wp2
  go_ret
  exact ⟨rfl, rfl⟩
end Go.Proofs.Ytjkfkjbakokjeaa
