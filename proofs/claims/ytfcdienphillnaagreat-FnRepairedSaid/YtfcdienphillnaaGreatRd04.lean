/- Dumps that are valid, impl and spec: the walks. Evidence that is valid: the plain law. The bytes that most of some strings have: the walk of the implementation. Votes: the plain law (a byte that more than half of the strings have is the most frequent one). -/
import Derived.Test.YtfcdienphillnaaGreatRd03
import Derived.Test.YtfcdienphillnaaGreatRd02
import Derived.Deep.WholeRow
namespace Go.Proofs.YtfcdienphillnaaGreat
set_option linter.unusedVariables false
set_option linter.unusedSimpArgs false
open Go.RowKit
def sameG (a b : Dsc) : Bool := (((a.cyl == b.cyl) && (a.heads == b.heads)) && (a.per == b.per)) && (a.size == b.size)
def dumpsOk (l : List Dsc) : Bool := match l with
  | [] => false
  | z :: _ => decide (l.length ≤ 5) && l.all fun d => discOk d && sameG d z
theorem du_long {l : List Dsc} (h : 5 < l.length) : dumpsOk l = false := by
  cases l with
  | nil => rfl
  | cons z r => unfold dumpsOk; rw [decide_eq_false (by omega)]; rfl
theorem du_at {l : List Dsc} {z : Dsc} (h : l[0]? = some z) (h5 : l.length ≤ 5) : dumpsOk l = l.all fun d => discOk d && sameG d z := by
  cases l with
  | nil => cases h
  | cons z' r =>
    obtain rfl : z' = z := by simpa using h
    unfold dumpsOk; rw [decide_eq_true h5]; simp only [Bool.true_and]
theorem du_yes {l : List Dsc} {k : Nat} {e z : Dsc} {X : Bool} (he : l[k]? = some e) (H : Hid (X = (l.drop k).all fun d => discOk d && sameG d z)) (h : (discOk e && sameG e z) = true) : Hid (X = (l.drop (k + 1)).all fun d => discOk d && sameG d z) := by
  obtain ⟨hk, rfl⟩ := List.getElem?_eq_some_iff.1 he
  exact Lib.hid (by rw [H.out, List.drop_eq_getElem_cons hk, List.all_cons, h, Bool.true_and])
theorem du_no {l : List Dsc} {k : Nat} {e z : Dsc} {X : Bool} (he : l[k]? = some e) (H : Hid (X = (l.drop k).all fun d => discOk d && sameG d z)) (h : (discOk e && sameG e z) = false) : X = false := by
  obtain ⟨hk, rfl⟩ := List.getElem?_eq_some_iff.1 he
  rw [H.out, List.drop_eq_getElem_cons hk, List.all_cons, h, Bool.false_and]
theorem du_end {l : List Dsc} {k : Nat} {z : Dsc} {X : Bool} (hk : l.length ≤ k) (H : Hid (X = (l.drop k).all fun d => discOk d && sameG d z)) : X = true := by
  rw [H.out, List.drop_of_length_le hk]; rfl
theorem size_dsc (A : Option Addr) (n c : Nat) (w : World) (hn : n ≤ 1048576) : Calls Tryz.prog 89 #[.slice A n c] w fun e w' => e = .returned (.int .i64 n) ∧ w = w' := by
  go_enter Tryz.func89, Tryz.ntmps89
  go_wp2
  go_ret
  exact ⟨rfl, rfl⟩
set_option maxHeartbeats 2000000 in
theorem same_i (a b : Dsc) (Aa Ab : Option Addr) (na ca nb cb : Nat) (w : World) : Calls Tryz.prog 86 #[dscV a (.slice Aa na ca), dscV b (.slice Ab nb cb)] w fun e w' => e = .returned (.bool (sameG a b)) ∧ Below w.heap.size w w' := by
  unfold sameG
  cases h1 : (a.cyl == b.cyl)
  · go_enter Tryz.func86, Tryz.ntmps86
    go_wp2
    go_ret
    exact ⟨rfl, (by repeat (first | exact Below.refl _ _ | refine Below.alloc ?_ (by first | omega | (simp; done) | (simp; omega)) _ | apply Below.drew | apply below_drewN | refine Below.setCell ?_ (by first | omega | (simp; done) | (simp; omega)) _ | refine Below.trans ?_ (Below.mono (by assumption) (by first | omega | (simp; done) | (simp; omega)))))⟩
  · cases h2 : (a.heads == b.heads)
    · go_enter Tryz.func86, Tryz.ntmps86
      go_wp2
      go_ret
      exact ⟨rfl, (by repeat (first | exact Below.refl _ _ | refine Below.alloc ?_ (by first | omega | (simp; done) | (simp; omega)) _ | apply Below.drew | apply below_drewN | refine Below.setCell ?_ (by first | omega | (simp; done) | (simp; omega)) _ | refine Below.trans ?_ (Below.mono (by assumption) (by first | omega | (simp; done) | (simp; omega)))))⟩
    · cases h3 : (a.per == b.per)
      · go_enter Tryz.func86, Tryz.ntmps86
        go_wp2
        go_ret
        exact ⟨rfl, (by repeat (first | exact Below.refl _ _ | refine Below.alloc ?_ (by first | omega | (simp; done) | (simp; omega)) _ | apply Below.drew | apply below_drewN | refine Below.setCell ?_ (by first | omega | (simp; done) | (simp; omega)) _ | refine Below.trans ?_ (Below.mono (by assumption) (by first | omega | (simp; done) | (simp; omega)))))⟩
      · cases h4 : (a.size == b.size)
        · go_enter Tryz.func86, Tryz.ntmps86
          go_wp2
          go_ret
          exact ⟨rfl, (by repeat (first | exact Below.refl _ _ | refine Below.alloc ?_ (by first | omega | (simp; done) | (simp; omega)) _ | apply Below.drew | apply below_drewN | refine Below.setCell ?_ (by first | omega | (simp; done) | (simp; omega)) _ | refine Below.trans ?_ (Below.mono (by assumption) (by first | omega | (simp; done) | (simp; omega)))))⟩
        · go_enter Tryz.func86, Tryz.ntmps86
          go_wp2
          go_ret
          exact ⟨rfl, (by repeat (first | exact Below.refl _ _ | refine Below.alloc ?_ (by first | omega | (simp; done) | (simp; omega)) _ | apply Below.drew | apply below_drewN | refine Below.setCell ?_ (by first | omega | (simp; done) | (simp; omega)) _ | refine Below.trans ?_ (Below.mono (by assumption) (by first | omega | (simp; done) | (simp; omega)))))⟩
set_option maxRecDepth 20000 in
set_option maxHeartbeats 4000000 in
theorem dumps_i (B : Nat) (l : List Dsc) (v : Value) (w : World) (h : DscOwn B w v l) (hn : l.length ≤ 1048576) (hb2 : ∀ d ∈ l, d.secs.length ≤ 1048576) (hm : ∀ d ∈ l, ∀ s ∈ d.secs, s.data.size ≤ maxLen) :
    Calls Tryz.prog 100 #[v] w fun e w' => e = .returned (.bool (dumpsOk l)) ∧ Below w.heap.size w w' := by
  obtain ⟨A, c, rfl, hA⟩ := h
  by_cases hlen : 1 ≤ l.length ∧ l.length ≤ 5
  · obtain ⟨g, rfl, _, hg, hc⟩ := hA.resolve_left (by rintro rfl; simp at hlen)
    have b0 : inB l.length 1 5 = true := inB_t (by omega)
    obtain ⟨z, hz⟩ : ∃ z, l[0]? = some z := ⟨l[0]'(by omega), List.getElem?_eq_getElem (by omega)⟩
    have HF := Lib.hid (du_at hz hlen.2)
    obtain ⟨bz, o0, cz⟩ := hc 0 z hz
    obtain ⟨Az, ccz, rfl, _⟩ := OwnL.shape o0
    have HC := Lib.hid hc
    have HZ : Hid (∀ (j : Nat) (u : Value), (z.ints ++ [.slice Az z.secs.length ccz])[j]? = some u → w.cell? ⟨g, j, none⟩ = some u) := Lib.hid (fun j u hu => by have := cz j u hu; simpa using this)
    clear hA hc cz o0 hz
    go_enter Tryz.func100, Tryz.ntmps100
    go_wp2_with (first | (go_at_call 51; refine (within_i _ _ _ _).mono ?_; rintro e w1 ⟨rfl, rfl⟩) | (go_at_call 89; refine (size_dsc _ _ _ _ hn).mono ?_; rintro e w1 ⟨rfl, rfl⟩))
    go_loopw [11] (fun i wr => ∃ k : Nat, k ≤ l.length ∧ i = .int .i64 k ∧ Below w.heap.size w wr ∧ Hid (dumpsOk l = (l.drop k).all fun d => discOk d && sameG d z)) (fun i _ => l.length - (intOf i).toNat)
    case atStart => exact ⟨0, by omega, rfl, Below.refl _ _, HF⟩
    case round =>
      obtain ⟨k, hk, rfl, hb, HK⟩ := hrel
      have zr := hb.size
      by_cases hlt : k < l.length
      · obtain ⟨e, he⟩ : ∃ e, l[k]? = some e := ⟨l[k], List.getElem?_eq_getElem hlt⟩
        obtain ⟨bv, o1, c1⟩ := HC.out k e he
        have PC := fun (j : Nat) (u : Value) (hu : (e.ints ++ [bv])[j]? = some u) => (hb.cell (p := ⟨g, k * 5 + j, none⟩) hg).trans (c1 j u hu)
        have p0 : wr.cell? ⟨g, k * 5, none⟩ = some (.int .i64 e.cyl) := PC 0 _ rfl
        have p1 := PC 1 _ rfl
        have p2 := PC 2 _ rfl
        have p3 := PC 3 _ rfl
        have p4 := PC 4 _ rfl
        have hmem := List.mem_of_getElem? he
        obtain ⟨A2, c2, rfl, _⟩ := OwnL.shape o1
        have cpB : Below w.heap.size w (wr.alloc (.cells #[.int .i64 e.cyl, .int .i64 e.heads, .int .i64 e.per, .int .i64 e.size, .slice A2 e.secs.length c2] 43)) := Below.alloc hb zr _
        have HD : Hid (∀ x : Wb (wr.alloc (.cells #[.int .i64 e.cyl, .int .i64 e.heads, .int .i64 e.per, .int .i64 e.size, .slice A2 e.secs.length c2] 43)), Calls Tryz.prog 84 #[dscV e (.slice A2 e.secs.length c2)] x.1 fun e' w' => e' = .returned (.bool (discOk e)) ∧ Below x.1.heap.size x.1 w') := Lib.hid (fun x => disc_i B e _ x.1 (OwnL.below (OwnL.below o1 cpB) x.2) (hb2 e hmem) (hm e hmem))
        have HG : Hid (∀ x : Wb (wr.alloc (.cells #[.int .i64 e.cyl, .int .i64 e.heads, .int .i64 e.per, .int .i64 e.size, .slice A2 e.secs.length c2] 43)), Calls Tryz.prog 86 #[dscV e (.slice A2 e.secs.length c2), dscV z (.slice Az z.secs.length ccz)] x.1 fun e' w' => e' = .returned (.bool (sameG e z)) ∧ Below x.1.heap.size x.1 w') := Lib.hid (fun x => same_i e z _ _ _ _ _ _ x.1)
        have QZ := fun (j : Nat) (u : Value) (hu : (z.ints ++ [.slice Az z.secs.length ccz])[j]? = some u) (x : Wb (wr.alloc (.cells #[.int .i64 e.cyl, .int .i64 e.heads, .int .i64 e.per, .int .i64 e.size, .slice A2 e.secs.length c2] 43))) => Wb.cell (b := g) (o := j) ((World.cell?_alloc_old _ _ _ (by show g ≠ wr.heap.size; omega)).trans ((hb.cell (p := ⟨g, j, none⟩) hg).trans (HZ.out j u hu))) x
        have y0 := QZ 0 _ rfl
        have y1 := QZ 1 _ rfl
        have y2 := QZ 2 _ rfl
        have y3 := QZ 3 _ rfl
        have y4 := QZ 4 _ rfl
        have e0 : ∀ x : Wb (wr.alloc (.cells #[.int .i64 e.cyl, .int .i64 e.heads, .int .i64 e.per, .int .i64 e.size, .slice A2 e.secs.length c2] 43)), x.1.cell? ⟨wr.heap.size, 0, none⟩ = some (.int .i64 e.cyl) := fun x => Wb.cell (by simp) x
        have e1 : ∀ x : Wb (wr.alloc (.cells #[.int .i64 e.cyl, .int .i64 e.heads, .int .i64 e.per, .int .i64 e.size, .slice A2 e.secs.length c2] 43)), x.1.cell? ⟨wr.heap.size, 1, none⟩ = some (.int .i64 e.heads) := fun x => Wb.cell (by simp) x
        have e2 : ∀ x : Wb (wr.alloc (.cells #[.int .i64 e.cyl, .int .i64 e.heads, .int .i64 e.per, .int .i64 e.size, .slice A2 e.secs.length c2] 43)), x.1.cell? ⟨wr.heap.size, 2, none⟩ = some (.int .i64 e.per) := fun x => Wb.cell (by simp) x
        have e3 : ∀ x : Wb (wr.alloc (.cells #[.int .i64 e.cyl, .int .i64 e.heads, .int .i64 e.per, .int .i64 e.size, .slice A2 e.secs.length c2] 43)), x.1.cell? ⟨wr.heap.size, 3, none⟩ = some (.int .i64 e.size) := fun x => Wb.cell (by simp) x
        have e4 : ∀ x : Wb (wr.alloc (.cells #[.int .i64 e.cyl, .int .i64 e.heads, .int .i64 e.per, .int .i64 e.size, .slice A2 e.secs.length c2] 43)), x.1.cell? ⟨wr.heap.size, 4, none⟩ = some (.slice A2 e.secs.length c2) := fun x => Wb.cell (by simp) x
        have HE := Lib.hid he
        have hl0 : 0 < l.length := by omega
        clear o1 c1 PC QZ he
        cases h1 : discOk e
        · have HN := du_no (z := z) HE.out HK (by rw [h1]; rfl)
          go_wp2_with (fail)
          refine wp_region_wb (by kernel_rfl) (by kernel_rfl) ?_; (repeat (go_big_quiet_step (first | (go_at_call 84; exact Wb.calls (HD.out _)) | (go_at_call 86; exact Wb.calls (HG.out _))))); refine wpQuiet_nil ?_; rintro w1 ⟨⟨w1', hb1⟩, rfl⟩
          go_wp2
          go_ret
          exact ⟨ret_bool HN.symm, cpB.trans (hb1.mono (by simp; omega))⟩
        · cases h2 : sameG e z
          · have HN := du_no (z := z) HE.out HK (by rw [h1, h2]; rfl)
            go_wp2_with (fail)
            refine wp_region_wb (by kernel_rfl) (by kernel_rfl) ?_; (repeat (go_big_quiet_step (first | (go_at_call 84; exact Wb.calls (HD.out _)) | (go_at_call 86; exact Wb.calls (HG.out _))))); refine wpQuiet_nil ?_; rintro w1 ⟨⟨w1', hb1⟩, rfl⟩
            go_wp2
            go_ret
            exact ⟨ret_bool HN.symm, cpB.trans (hb1.mono (by simp; omega))⟩
          · have HN := du_yes (z := z) HE.out HK (by rw [h1, h2]; rfl)
            go_wp2_with (fail)
            refine wp_region_wb (by kernel_rfl) (by kernel_rfl) ?_; (repeat (go_big_quiet_step (first | (go_at_call 84; exact Wb.calls (HD.out _)) | (go_at_call 86; exact Wb.calls (HG.out _))))); refine wpQuiet_nil ?_; rintro w1 ⟨⟨w1', hb1⟩, rfl⟩
            go_wp2
            go_roundw
            case rel => exact ⟨k + 1, by omega, by go_num, cpB.trans (hb1.mono (by simp; omega)), HN⟩
            case measure => simp [intOf]; omega
      · go_wp2
        go_ret
        exact ⟨ret_bool (du_end (by omega) HK).symm, hb⟩
  · have b0 : inB l.length 1 5 = false := inB_f (by omega)
    have HF : Hid (dumpsOk l = false) := Lib.hid (by
      by_cases h : 5 < l.length
      · exact du_long h
      · obtain rfl : l = [] := List.eq_nil_of_length_eq_zero (by omega)
        rfl)
    clear hA
    go_enter Tryz.func100, Tryz.ntmps100
    go_wp2_with (first | (go_at_call 51; refine (within_i _ _ _ _).mono ?_; rintro e w1 ⟨rfl, rfl⟩) | (go_at_call 89; refine (size_dsc _ _ _ _ hn).mono ?_; rintro e w1 ⟨rfl, rfl⟩))
    go_ret
    exact ⟨ret_bool HF.out.symm, Below.refl _ _⟩
end Go.Proofs.YtfcdienphillnaaGreat
namespace Go.Proofs.YtfcdienphillnaaGreat
set_option linter.unusedVariables false
set_option linter.unusedSimpArgs false
open Go.RowKit
def crcR (x : Int) : Bool := inB x (-1) 65535
def parB (n : Nat) (s : ByteArray) : Bool := decide (s.size = 0) || decide (s.size = n)
def parOk (z : Dsc) (l : List ByteArray) : Bool := ((l.length : Int) == z.cyl * z.heads) && l.all (parB (szN z.size))
def evR (z : Dsc) (e : Evd) : Bool := (e.cr.length == z.secs.length) && (e.cr.all crcR && (parOk z e.p && parOk z e.q))
def evOk (e : Evd) : Bool := dumpsOk e.ds && evR (e.ds.headD default) e
theorem ev_no0 {e : Evd} (h : dumpsOk e.ds = false) : evOk e = false := by unfold evOk; rw [h, Bool.false_and]
theorem ev_at {e : Evd} {z : Dsc} (h : dumpsOk e.ds = true) (hz : e.ds[0]? = some z) : evOk e = evR z e := by
  have : e.ds.headD default = z := by
    cases hd : e.ds with
    | nil => rw [hd] at hz; cases hz
    | cons a r => rw [hd] at hz; simpa using hz
  unfold evOk; rw [h, this, Bool.true_and]
theorem ev_no1 {z : Dsc} {e : Evd} {X : Bool} (H : X = evR z e) (h : ¬ e.cr.length = z.secs.length) : X = false := by
  rw [H]; unfold evR; rw [show (e.cr.length == z.secs.length) = false by simpa using h, Bool.false_and]
theorem ev_yes1 {z : Dsc} {e : Evd} {X : Bool} (H : X = evR z e) (h : e.cr.length = z.secs.length) : X = (e.cr.all crcR && (parOk z e.p && parOk z e.q)) := by
  rw [H]; unfold evR; rw [show (e.cr.length == z.secs.length) = true by simpa using h, Bool.true_and]
theorem al_yes {α : Type} {f : α → Bool} {l : List α} {k : Nat} {s : α} {X R : Bool} (hs : l[k]? = some s) (H : Hid (X = ((l.drop k).all f && R))) (h : f s = true) : Hid (X = ((l.drop (k + 1)).all f && R)) := by
  obtain ⟨hk, rfl⟩ := List.getElem?_eq_some_iff.1 hs
  exact Lib.hid (by rw [H.out, List.drop_eq_getElem_cons hk, List.all_cons, h, Bool.true_and])
theorem al_no {α : Type} {f : α → Bool} {l : List α} {k : Nat} {s : α} {X R : Bool} (hs : l[k]? = some s) (H : Hid (X = ((l.drop k).all f && R))) (h : f s = false) : X = false := by
  obtain ⟨hk, rfl⟩ := List.getElem?_eq_some_iff.1 hs
  rw [H.out, List.drop_eq_getElem_cons hk, List.all_cons, h, Bool.false_and, Bool.false_and]
theorem al_end {α : Type} {f : α → Bool} {l : List α} {k : Nat} {X R : Bool} (hk : l.length ≤ k) (H : Hid (X = ((l.drop k).all f && R))) : X = R := by
  rw [H.out, List.drop_of_length_le hk]; rfl
theorem pr_no {z : Dsc} {l : List ByteArray} {X R : Bool} (H : X = (parOk z l && R)) (h : ((l.length : Int) == z.cyl * z.heads) = false) : X = false := by
  rw [H]; unfold parOk; rw [h, Bool.false_and, Bool.false_and]
theorem pr_yes {z : Dsc} {l : List ByteArray} {X R : Bool} (H : X = (parOk z l && R)) (h : ((l.length : Int) == z.cyl * z.heads) = true) : Hid (X = ((l.drop 0).all (parB (szN z.size)) && R)) := by
  refine Lib.hid ?_
  rw [H]; unfold parOk; rw [h, Bool.true_and, List.drop_zero]
theorem dps_first {l : List Dsc} (h : dumpsOk l = true) : ∃ z, l[0]? = some z := by
  cases l with
  | nil => cases h
  | cons z r => exact ⟨z, rfl⟩
theorem dps_ok {l : List Dsc} {z : Dsc} (h : dumpsOk l = true) (hz : l[0]? = some z) : discOk z = true := by
  cases l with
  | nil => cases hz
  | cons a r =>
    by_cases h5 : (a :: r).length ≤ 5
    · rw [du_at hz h5] at h
      have := List.all_eq_true.1 h z (List.mem_of_getElem? hz)
      rw [Bool.and_eq_true] at this
      exact this.1
    · rw [du_long (by omega)] at h; cases h
theorem disc_geo {d : Dsc} (h : discOk d = true) : geoB d.cyl d.heads d.per d.size = true := by
  cases hg : geoB d.cyl d.heads d.per d.size
  · rw [dk_no1 hg] at h; cases h
  · rfl
/-- what a slice of strings holds -/
def StrAt (w : World) (A : Option Addr) (l : List ByteArray) : Prop := l = [] ∨ ∃ g, A = some ⟨g, 0, none⟩ ∧ g < w.heap.size ∧ ∀ (k : Nat) (s : ByteArray), l[k]? = some s → w.cell? ⟨g, k, none⟩ = some (.string s)
theorem StrAt.of {B c n : Nat} {w : World} {A : Option Addr} {l : List ByteArray} (h : StringL B w (.slice A n c) l) (hn : l.length = n) : StrAt w A l := by
  subst hn
  obtain ⟨A', c', e, hA⟩ := OwnL.shape h
  injection e with e1 _ _
  subst e1
  by_cases hl0 : l = []
  · exact .inl hl0
  · obtain ⟨g, rfl, _, hg⟩ := hA.resolve_left hl0
    exact .inr ⟨g, rfl, hg, fun k s hk => StringL.at_ h rfl hk⟩
theorem StrAt.below {w w' : World} {A : Option Addr} {l : List ByteArray} (h : StrAt w A l) (hb : Below w.heap.size w w') : StrAt w' A l := by
  rcases h with h | ⟨g, rfl, hg, hc⟩
  · exact .inl h
  · exact .inr ⟨g, rfl, Nat.lt_of_lt_of_le hg hb.size, fun k s hk => (hb.cell (p := ⟨g, _, none⟩) hg).trans (hc k s hk)⟩
theorem par_empty {n : Nat} {s : ByteArray} (h : s.size = 0) : parB n s = true := by unfold parB; rw [decide_eq_true h, Bool.true_or]
theorem par_same {n : Nat} {s : ByteArray} (h : s.size = n) : parB n s = true := by unfold parB; rw [decide_eq_true h, Bool.or_true]
theorem par_bad {n : Nat} {s : ByteArray} (h : ¬ s.size = 0) (h2 : ¬ s.size = n) : parB n s = false := by unfold parB; rw [decide_eq_false h, decide_eq_false h2]; rfl
theorem size_str (A : Option Addr) (n c : Nat) (w : World) (hn : n ≤ 1048576) : Calls Tryz.prog 101 #[.slice A n c] w fun e w' => e = .returned (.int .i64 n) ∧ w = w' := by
  go_enter Tryz.func101, Tryz.ntmps101
  go_wp2
  go_ret
  exact ⟨rfl, rfl⟩
end Go.Proofs.YtfcdienphillnaaGreat
namespace Go.Proofs.YtfcdienphillnaaGreat
set_option linter.unusedVariables false
set_option linter.unusedSimpArgs false
open Go.RowKit
/-- the byte that most have, of several the lowest, below b -/
def voteK (c : Nat → Nat) : Nat → Nat
  | 0 => 0
  | b + 1 => if c (voteK c b) < c b then b else voteK c b
theorem voteK_lt (c : Nat → Nat) : ∀ b, voteK c b ≤ b - 1
  | 0 => Nat.le_refl _
  | b + 1 => by
    have := voteK_lt c b
    unfold voteK; split <;> omega
/-- how many strings have byte b at place i -/
def cntBV (l : List ByteArray) (i b : Nat) : Nat := l.countP fun s => s.data.toList.getD i 0 == UInt8.ofNat b
def cntBk (l : List ByteArray) (i k b : Nat) : Nat := cntBV (l.take k) i b
def byteV (l : List ByteArray) (i : Nat) : Nat := voteK (cntBV l i) 256
def voteV (l : List ByteArray) : List Nat := (List.range (l.getD 0 .empty).size).map (byteV l)
theorem byteV_lt (l : List ByteArray) (i : Nat) : byteV l i < 256 := by
  have := voteK_lt (cntBV l i) 256; unfold byteV; omega
/-- an array of 256 counts -/
def cArr (f : Nat → Nat) : Array Value := Array.ofFn (n := 256) fun b => .int .i64 (f b.val : Nat)
theorem cArr_size (f : Nat → Nat) : (cArr f).size = 256 := by simp [cArr]
theorem cArr_get (f : Nat → Nat) {b : Nat} (h : b < 256) : (cArr f)[b]? = some (.int .i64 (f b : Nat)) := by simp [cArr, h]
theorem cArr_set (f f' : Nat → Nat) {x : Nat} (hx : x < 256) (h : ∀ b, b < 256 → f' b = if b = x then f x + 1 else f b) : (cArr f).setIfInBounds x (.int .i64 ((f x + 1 : Nat) : Int)) = cArr f' := by
  apply Array.ext_getElem?
  intro i
  rw [Array.getElem?_setIfInBounds]
  by_cases hi : i < 256
  · rw [cArr_get f' hi, h i hi]
    by_cases e : x = i
    · subst e; simp [cArr_size, hi]
    · rw [if_neg e, cArr_get f hi, if_neg (Ne.symm e)]
  · rw [if_neg (by rintro rfl; exact hi hx), Array.getElem?_eq_none (by rw [cArr_size]; omega), Array.getElem?_eq_none (by rw [cArr_size]; omega)]
theorem cArr_zero : Array.replicate 256 (Value.int .i64 0) = cArr (fun _ => 0) := by
  apply Array.ext_getElem?
  intro i
  by_cases hi : i < 256
  · rw [cArr_get _ hi]; simp [hi]
  · rw [Array.getElem?_eq_none (by simp; omega), Array.getElem?_eq_none (by rw [cArr_size]; omega)]
theorem arr_info : (Tryz.prog.info? 180).map (fun i => (i.zero, i.size)) = some (some (.agg (Array.replicate 256 (.int .i64 0))), 256) := by kernel_rfl
theorem cntBk_le (D : List ByteArray) (i k b : Nat) : cntBk D i k b ≤ k := by
  unfold cntBk cntBV
  exact Nat.le_trans List.countP_le_length (by simp; omega)
theorem cnt_next {D : List ByteArray} {i k : Nat} {s : ByteArray} (hs : D[k]? = some s) (hi : i < s.size) : ∀ b, b < 256 → cntBk D i (k + 1) b = if b = s[i].toNat then cntBk D i k s[i].toNat + 1 else cntBk D i k b := by
  intro b hb
  obtain ⟨hk, rfl⟩ := List.getElem?_eq_some_iff.1 hs
  have hd : D[k].data.toList.getD i 0 = D[k][i] := by
    rw [List.getD_eq_getElem?_getD, List.getElem?_eq_getElem (by simpa using hi)]; rfl
  have e : ∀ c, cntBk D i (k + 1) c = cntBk D i k c + if (D[k][i] == UInt8.ofNat c) = true then 1 else 0 := fun c => by
    unfold cntBk cntBV
    rw [List.take_succ_eq_append_getElem hk, List.countP_append, List.countP_singleton, hd]
  rw [e b]
  by_cases hbe : b = D[k][i].toNat
  · subst hbe
    rw [if_pos rfl, if_pos (by simp)]
  · rw [if_neg hbe, if_neg, Nat.add_zero]
    intro h
    have h2 : D[k][i] = UInt8.ofNat b := by simpa using h
    apply hbe; rw [h2, UInt8.toNat_ofNat']; omega
set_option maxRecDepth 20000 in
set_option maxHeartbeats 1000000 in
theorem vote_i (B : Nat) (D : List ByteArray) (v : Value) (w : World) (h : StringL B w v D) (hn : D.length ≤ 1048576) (h0 : D ≠ []) (n : Nat) (hs : ∀ s ∈ D, s.size = n) (hn2 : n ≤ 1048576) :
    Calls Tryz.prog 123 #[v] w fun e w' => e = .returned (.string (strN (voteV D))) ∧ Below w.heap.size w w' := by
  obtain ⟨A, c, rfl, hA⟩ := OwnL.shape h
  obtain ⟨g, rfl, _, hg⟩ := hA.resolve_left h0
  have HC := Lib.hid (fun k s (hk : D[k]? = some s) => StringL.at_ h rfl hk)
  have hl : 0 < D.length := List.length_pos_iff.2 h0
  obtain ⟨s0, hs0⟩ : ∃ s, D[0]? = some s := ⟨D[0], List.getElem?_eq_getElem hl⟩
  have p0 := HC.out 0 s0 hs0
  have hs00 : s0.size = n := hs s0 (List.mem_of_getElem? hs0)
  obtain ⟨hz, hsz⟩ := zero_of_info arr_info
  rw [cArr_zero] at hz
  obtain ⟨wb, hmk, hbuf, hbb, hzb⟩ := buf_made w n (by omega)
  have HS := Lib.hid hs
  have HS0 := Lib.hid hs0
  subst hs00
  clear hA h h0 hs0 hs
  go_enter Tryz.func123, Tryz.ntmps123
  go_wp2_with (fail)
  go_loopw [18] (fun i wr => ∃ (k : Nat) (bl : List Nat), k ≤ s0.size ∧ i = .int .i64 k ∧ Below w.heap.size w wr ∧ w.heap.size < wr.heap.size ∧ Hid (bl.length = s0.size) ∧ Hid (Buf wr w.heap.size bl) ∧ Hid (∀ j, j < k → bl[j]? = some (byteV D j))) (fun i _ => s0.size - (intOf i).toNat)
  case atStart => exact ⟨0, _, by omega, rfl, hbb, by omega, Lib.hid (by simp), Lib.hid hbuf, Lib.hid fun j hj => by omega⟩
  case round =>
    clear hbuf hbb hzb hmk
    obtain ⟨i, bl, hi, rfl, hb, hzr, HL, HB, HV⟩ := hrel
    have zr := hb.size
    by_cases hlt : i < s0.size
    · generalize hwo : wr = wo at *; clear hwo
      have hA0 : ((wo.alloc (.cells (cArr fun _ => 0) 180)).heap[wo.heap.size]? = some (.cells (cArr (cntBk D i 0)) 180 (0, 0))) := by
        rw [heap_alloc_last]; congr 3
      have hB0 : Below wo.heap.size wo (wo.alloc (.cells (cArr fun _ => 0) 180)) := Below.alloc (Below.refl _ _) (Nat.le_refl _) _
      have HA0 := Lib.hid hA0
      clear hA0
      go_wp2_with (fail)
      go_loopw [23] (fun j wx => ∃ k : Nat, k ≤ D.length ∧ j = .int .i64 k ∧ Below wo.heap.size wo wx ∧ Hid (wx.heap[wo.heap.size]? = some (.cells (cArr (cntBk D i k)) 180 (0, 0)))) (fun j _ => D.length - (intOf j).toNat)
      case atStart => exact ⟨0, by omega, rfl, hB0, HA0⟩
      case round =>
        clear HA0 hB0
        obtain ⟨k, hk, rfl, hbx, HX⟩ := hrel
        have zx := hbx.size
        by_cases hltk : k < D.length
        · obtain ⟨s, hs⟩ : ∃ s, D[k]? = some s := ⟨D[k], List.getElem?_eq_getElem hltk⟩
          have q0 := (hbx.cell (p := ⟨g, k, none⟩) (Nat.lt_of_lt_of_le hg zr)).trans ((hb.cell (p := ⟨g, k, none⟩) hg).trans (HC.out k s hs))
          have hsz1 := HS.out s (List.mem_of_getElem? hs)
          have his : i < s.size := by omega
          have hx256 : s[i].toNat < 256 := s[i].toNat_lt
          have HXN := Lib.hid (cnt_next (i := i) hs his)
          have q1 : wr.cell? ⟨wo.heap.size, s[i].toNat, none⟩ = some (.int .i64 (cntBk D i k s[i].toNat : Nat)) := (cell_of_row wr _ _ _ _ _ HX.out).trans (cArr_get _ hx256)
          have q2 := frozen_of_row wr wo.heap.size s[i].toNat _ _ HX.out
          have hcb : cntBk D i k s[i].toNat ≤ 1048576 := Nat.le_trans (cntBk_le _ _ _ _) (by omega)
          clear hs hsz1
          go_wp2_with (fail)
          go_roundw
          case rel => exact ⟨k + 1, by omega, by go_num, Below.setCell hbx (p := ⟨wo.heap.size, s[i].toNat, none⟩) (Nat.le_refl _) _, Lib.hid (by rw [← cArr_set _ _ hx256 HXN.out]; exact heap_setCell_same _ _ _ _ _ _ HX.out)⟩
          case measure => simp [intOf]; omega
        · obtain rfl : k = D.length := by omega
          have HXE : Hid (wr.heap[wo.heap.size]? = some (.cells (cArr (cntBV D i)) 180 (0, 0))) := Lib.hid (by have := HX.out; unfold cntBk at this; rw [List.take_length] at this; exact this)
          have hQ : ∀ b, b < 256 → wr.cell? ⟨wo.heap.size, b, none⟩ = some (.int .i64 (cntBV D i b : Nat)) := fun b hb => (cell_of_row wr _ _ _ _ _ HXE.out).trans (cArr_get _ hb)
          have HQ := Lib.hid hQ
          have hIX : ∀ (b : Nat) (W : World), b < 256 → (Instr.index 180 (.agg (cArr (cntBV D i))) (.int .i64 (b : Int))).run Tryz.prog W = .ok (.int .i64 (cntBV D i b : Nat)) W := fun b W hb => by
            have hu : Tryz.prog.underlying 180 = some (.array 256 3) := Tryz.underlying180
            have hg := cArr_get (cntBV D i) hb
            have h1 : (0 : Int) ≤ (b : Int) := by omega
            have h2 : (b : Int) < 256 := by omega
            have hag : ∀ W, (isAgg 3).run Tryz.prog W = .ok false W := fun W => by kernel_rfl
            simp [Instr.index, hu, go_sem, asIntOf, h1, h2, part, hag, hg]
            intro h; omega
          have HIX := Lib.hid hIX
          have HCL := Lib.hid (fun b => cntBk_le D i D.length b)
          clear HX hQ hIX
          go_wp2_with (first | (refine wpList_load_row rfl 180 _ rfl wo.heap.size rfl 180 (cArr (cntBV D i)) (0, 0) _ HXE.out Tryz.underlying180 rfl (by rw [cArr_size]; exact hsz) ?_))
          go_loop [36, 8] (fun j y => ∃ b : Nat, b ≤ 256 ∧ j = .int .i64 b ∧ ∃ x : Nat, y = .int .i64 x ∧ x < 256 ∧ Hid (x = voteK (cntBV D i) b)) (fun j _ => 256 - (intOf j).toNat)
          case atStart => exact ⟨0, by omega, rfl, 0, rfl, by omega, Lib.hid rfl⟩
          case round =>
            obtain ⟨b, hb256, rfl, x, rfl, hx, HX⟩ := hrel
            have q1 := HQ.out x hx
            have q3 := frozen_of_row wr wo.heap.size x _ _ HXE.out
            have hcx : cntBV D i x ≤ 1048576 := by have := HCL.out x; unfold cntBk at this; rw [List.take_length] at this; omega
            by_cases hlb : b < 256
            · have hix := fun W => HIX.out b W hlb
              have hcb : cntBV D i b ≤ 1048576 := by have := HCL.out b; unfold cntBk at this; rw [List.take_length] at this; omega
              by_cases hc : cntBV D i x < cntBV D i b
              · have HN : Hid (b = voteK (cntBV D i) (b + 1)) := Lib.hid (by rw [voteK, ← HX.out, if_pos hc])
                generalize cntBV D i x = cx at *
                generalize cntBV D i b = cb at *
                have d1 : decide ((cx : Int) < (cb : Int)) = true := decide_eq_true (by omega)
                have d2 : decide (cx < cb) = true := decide_eq_true hc
                clear HX HQ HIX HXE hc
                go_wp2
                go_round
                case rel => exact ⟨b + 1, by omega, by go_num, b, rfl, hlb, HN⟩
                case measure => simp [intOf]; omega
              · have HN : Hid (x = voteK (cntBV D i) (b + 1)) := Lib.hid (by rw [voteK, ← HX.out, if_neg hc])
                generalize cntBV D i x = cx at *
                generalize cntBV D i b = cb at *
                have d1 : decide ((cx : Int) < (cb : Int)) = false := decide_eq_false (by omega)
                have d2 : decide (cx < cb) = false := decide_eq_false hc
                clear HX HQ HIX HXE hc
                go_wp2
                go_round
                case rel => exact ⟨b + 1, by omega, by go_num, x, rfl, hx, HN⟩
                case measure => simp [intOf]; omega
            · obtain rfl : b = 256 := by omega
              have HXV : Hid (byteV D i = x) := Lib.hid HX.out.symm
              obtain ⟨y, hy⟩ : ∃ y, bl[i]? = some y := ⟨bl[i]'(by rw [HL.out]; omega), List.getElem?_eq_getElem _⟩
              have hB2 := Buf.below HB.out hbx hzr
              have r0 := (hB2 i y hy).1
              have r1 := (hB2 i y hy).2
              have HB3 := Lib.hid (hB2.set x hy)
              have hbl := HL.out
              have hxm : ((x : Int) % 256) = x := by omega
              clear hy hB2 HX HQ HIX HXE
              go_wp2
              go_roundw
              case rel => exact ⟨i + 1, bl.set i x, by omega, by go_num, Below.setCell (hb.trans (hbx.mono zr)) (p := ⟨w.heap.size, i, none⟩) (Nat.le_refl _) _, by simp; omega, Lib.hid (by rw [List.length_set]; exact HL.out), HB3, Lib.hid fun j hj => by
                by_cases e : j = i
                · subst e; rw [List.getElem?_set_self (by omega), HXV.out]
                · rw [List.getElem?_set_ne (Ne.symm e)]; exact HV.out j (by omega)⟩
              case measure => simp [intOf]; omega
    · obtain rfl : i = s0.size := by omega
      have HVV : Hid (bl = voteV D) := Lib.hid (by
        refine List.ext_getElem? fun j => ?_
        unfold voteV
        rw [List.getD_eq_getElem?_getD, HS0.out, Option.getD_some, List.getElem?_map]
        by_cases hj : j < s0.size
        · rw [HV.out j hj, List.getElem?_range hj]; rfl
        · rw [List.getElem?_eq_none (by rw [HL.out]; omega), List.getElem?_eq_none (by simp; omega)]; rfl)
      have hst := Buf.str (n := s0.size) (c := s0.size) HB.out HL.out
      rw [HVV.out] at hst
      clear HB HV HL
      go_wp2_with (fail)
      go_ret
      exact ⟨rfl, hb⟩
end Go.Proofs.YtfcdienphillnaaGreat
namespace Go.Proofs.YtfcdienphillnaaGreat
set_option linter.unusedVariables false
set_option linter.unusedSimpArgs false
/-- more than half of the strings have the most frequent byte at a place -/
def majB (D : List ByteArray) (i : Nat) : Bool := decide (D.length < 2 * cntBV D i (byteV D i))
def voteN (D : List ByteArray) : Nat := (D.getD 0 .empty).size
def voteOk (D : List ByteArray) : Bool := decide (2 ≤ D.length) && (List.range (voteN D)).all (majB D)
def voteE (D : List ByteArray) : ByteArray × Bool := if voteOk D then (strN (voteV D), true) else (.empty, false)
theorem vo_short {D : List ByteArray} (h : D.length < 2) : voteE D = (.empty, false) := by
  unfold voteE voteOk; rw [decide_eq_false (by omega), Bool.false_and]; rfl
theorem vo_no {D : List ByteArray} {i : Nat} (hi : i < voteN D) (h : majB D i = false) : voteE D = (.empty, false) := by
  unfold voteE voteOk
  have : (List.range (voteN D)).all (majB D) = false := by
    rw [← Bool.not_eq_true, List.all_eq_true]
    intro hh
    have := hh i (List.mem_range.2 hi)
    rw [h] at this; cases this
  rw [this, Bool.and_false]; rfl
theorem vo_yes {D : List ByteArray} (h2 : 2 ≤ D.length) (h : ∀ i, i < voteN D → majB D i = true) : voteE D = (strN (voteV D), true) := by
  unfold voteE voteOk
  have : (List.range (voteN D)).all (majB D) = true := List.all_eq_true.2 fun i hi => h i (List.mem_range.1 hi)
  rw [this, decide_eq_true h2]; rfl
end Go.Proofs.YtfcdienphillnaaGreat
