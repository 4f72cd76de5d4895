/- Dumps that are valid, impl and spec: the walks. Evidence that is valid: the plain law. -/
import Derived.Test.YtfcdienphillnaaGreatCk07
import Derived.Test.YtfcdienphillnaaGreatCk09
namespace Go.Proofs.YtfcdienphillnaaGreat
set_option linter.unusedVariables false
set_option linter.unusedSimpArgs false
open Go.RowKit
def sameG (a b : Dsc) : Bool := (((a.cyl == b.cyl) && (a.heads == b.heads)) && (a.per == b.per)) && (a.size == b.size)
def dumpsOk (l : List Dsc) : Bool := match l with
  | [] => false
  | z :: _ => decide (l.length ≤ 5) && l.all fun d => discOk d && sameG d z
theorem du_long {l : List Dsc} (h : 5 < l.length) : dumpsOk l = false := by
  cases l with
  | nil => rfl
  | cons z r => unfold dumpsOk; rw [decide_eq_false (by omega)]; rfl
theorem du_at {l : List Dsc} {z : Dsc} (h : l[0]? = some z) (h5 : l.length ≤ 5) : dumpsOk l = l.all fun d => discOk d && sameG d z := by
  cases l with
  | nil => cases h
  | cons z' r =>
    obtain rfl : z' = z := by simpa using h
    unfold dumpsOk; rw [decide_eq_true h5]; simp only [Bool.true_and]
theorem du_yes {l : List Dsc} {k : Nat} {e z : Dsc} {X : Bool} (he : l[k]? = some e) (H : Hid (X = (l.drop k).all fun d => discOk d && sameG d z)) (h : (discOk e && sameG e z) = true) : Hid (X = (l.drop (k + 1)).all fun d => discOk d && sameG d z) := by
  obtain ⟨hk, rfl⟩ := List.getElem?_eq_some_iff.1 he
  exact Lib.hid (by rw [H.out, List.drop_eq_getElem_cons hk, List.all_cons, h, Bool.true_and])
theorem du_no {l : List Dsc} {k : Nat} {e z : Dsc} {X : Bool} (he : l[k]? = some e) (H : Hid (X = (l.drop k).all fun d => discOk d && sameG d z)) (h : (discOk e && sameG e z) = false) : X = false := by
  obtain ⟨hk, rfl⟩ := List.getElem?_eq_some_iff.1 he
  rw [H.out, List.drop_eq_getElem_cons hk, List.all_cons, h, Bool.false_and]
theorem du_end {l : List Dsc} {k : Nat} {z : Dsc} {X : Bool} (hk : l.length ≤ k) (H : Hid (X = (l.drop k).all fun d => discOk d && sameG d z)) : X = true := by
  rw [H.out, List.drop_of_length_le hk]; rfl
theorem size_dsc (A : Option Addr) (n c : Nat) (w : World) (hn : n ≤ 1048576) : Calls Tryz.prog 89 #[.slice A n c] w fun e w' => e = .returned (.int .i64 n) ∧ w = w' := by
  go_enter Tryz.func89, Tryz.ntmps89
  go_wp2
  go_ret
  exact ⟨rfl, rfl⟩
set_option maxHeartbeats 2000000 in
theorem same_i (a b : Dsc) (Aa Ab : Option Addr) (na ca nb cb : Nat) (w : World) : Calls Tryz.prog 86 #[dscV a (.slice Aa na ca), dscV b (.slice Ab nb cb)] w fun e w' => e = .returned (.bool (sameG a b)) ∧ Below w.heap.size w w' := by
  unfold sameG
  cases h1 : (a.cyl == b.cyl)
  · go_enter Tryz.func86, Tryz.ntmps86
    go_wp2
    go_ret
    exact ⟨rfl, (by repeat (first | exact Below.refl _ _ | refine Below.alloc ?_ (by first | omega | (simp; done) | (simp; omega)) _ | apply Below.drew | apply below_drewN | refine Below.setCell ?_ (by first | omega | (simp; done) | (simp; omega)) _ | refine Below.trans ?_ (Below.mono (by assumption) (by first | omega | (simp; done) | (simp; omega)))))⟩
  · cases h2 : (a.heads == b.heads)
    · go_enter Tryz.func86, Tryz.ntmps86
      go_wp2
      go_ret
      exact ⟨rfl, (by repeat (first | exact Below.refl _ _ | refine Below.alloc ?_ (by first | omega | (simp; done) | (simp; omega)) _ | apply Below.drew | apply below_drewN | refine Below.setCell ?_ (by first | omega | (simp; done) | (simp; omega)) _ | refine Below.trans ?_ (Below.mono (by assumption) (by first | omega | (simp; done) | (simp; omega)))))⟩
    · cases h3 : (a.per == b.per)
      · go_enter Tryz.func86, Tryz.ntmps86
        go_wp2
        go_ret
        exact ⟨rfl, (by repeat (first | exact Below.refl _ _ | refine Below.alloc ?_ (by first | omega | (simp; done) | (simp; omega)) _ | apply Below.drew | apply below_drewN | refine Below.setCell ?_ (by first | omega | (simp; done) | (simp; omega)) _ | refine Below.trans ?_ (Below.mono (by assumption) (by first | omega | (simp; done) | (simp; omega)))))⟩
      · cases h4 : (a.size == b.size)
        · go_enter Tryz.func86, Tryz.ntmps86
          go_wp2
          go_ret
          exact ⟨rfl, (by repeat (first | exact Below.refl _ _ | refine Below.alloc ?_ (by first | omega | (simp; done) | (simp; omega)) _ | apply Below.drew | apply below_drewN | refine Below.setCell ?_ (by first | omega | (simp; done) | (simp; omega)) _ | refine Below.trans ?_ (Below.mono (by assumption) (by first | omega | (simp; done) | (simp; omega)))))⟩
        · go_enter Tryz.func86, Tryz.ntmps86
          go_wp2
          go_ret
          exact ⟨rfl, (by repeat (first | exact Below.refl _ _ | refine Below.alloc ?_ (by first | omega | (simp; done) | (simp; omega)) _ | apply Below.drew | apply below_drewN | refine Below.setCell ?_ (by first | omega | (simp; done) | (simp; omega)) _ | refine Below.trans ?_ (Below.mono (by assumption) (by first | omega | (simp; done) | (simp; omega)))))⟩
set_option maxRecDepth 20000 in
set_option maxHeartbeats 4000000 in
theorem dumps_i (B : Nat) (l : List Dsc) (v : Value) (w : World) (h : DscOwn B w v l) (hn : l.length ≤ 1048576) (hb2 : ∀ d ∈ l, d.secs.length ≤ 1048576) (hm : ∀ d ∈ l, ∀ s ∈ d.secs, s.data.size ≤ maxLen) :
    Calls Tryz.prog 100 #[v] w fun e w' => e = .returned (.bool (dumpsOk l)) ∧ Below w.heap.size w w' := by
  obtain ⟨A, c, rfl, hA⟩ := h
  by_cases hlen : 1 ≤ l.length ∧ l.length ≤ 5
  · obtain ⟨g, rfl, _, hg, hc⟩ := hA.resolve_left (by rintro rfl; simp at hlen)
    have b0 : inB l.length 1 5 = true := inB_t (by omega)
    obtain ⟨z, hz⟩ : ∃ z, l[0]? = some z := ⟨l[0]'(by omega), List.getElem?_eq_getElem (by omega)⟩
    have HF := Lib.hid (du_at hz hlen.2)
    obtain ⟨bz, o0, cz⟩ := hc 0 z hz
    obtain ⟨Az, ccz, rfl, _⟩ := OwnL.shape o0
    have HC := Lib.hid hc
    have HZ : Hid (∀ (j : Nat) (u : Value), (z.ints ++ [.slice Az z.secs.length ccz])[j]? = some u → w.cell? ⟨g, j, none⟩ = some u) := Lib.hid (fun j u hu => by have := cz j u hu; simpa using this)
    clear hA hc cz o0 hz
    go_enter Tryz.func100, Tryz.ntmps100
    go_wp2_with (first | (go_at_call 51; refine (within_i _ _ _ _).mono ?_; rintro e w1 ⟨rfl, rfl⟩) | (go_at_call 89; refine (size_dsc _ _ _ _ hn).mono ?_; rintro e w1 ⟨rfl, rfl⟩))
    go_loopw [11] (fun i wr => ∃ k : Nat, k ≤ l.length ∧ i = .int .i64 k ∧ Below w.heap.size w wr ∧ Hid (dumpsOk l = (l.drop k).all fun d => discOk d && sameG d z)) (fun i _ => l.length - (intOf i).toNat)
    case atStart => exact ⟨0, by omega, rfl, Below.refl _ _, HF⟩
    case round =>
      obtain ⟨k, hk, rfl, hb, HK⟩ := hrel
      have zr := hb.size
      by_cases hlt : k < l.length
      · obtain ⟨e, he⟩ : ∃ e, l[k]? = some e := ⟨l[k], List.getElem?_eq_getElem hlt⟩
        obtain ⟨bv, o1, c1⟩ := HC.out k e he
        have PC := fun (j : Nat) (u : Value) (hu : (e.ints ++ [bv])[j]? = some u) => (hb.cell (p := ⟨g, k * 5 + j, none⟩) hg).trans (c1 j u hu)
        have p0 : wr.cell? ⟨g, k * 5, none⟩ = some (.int .i64 e.cyl) := PC 0 _ rfl
        have p1 := PC 1 _ rfl
        have p2 := PC 2 _ rfl
        have p3 := PC 3 _ rfl
        have p4 := PC 4 _ rfl
        have hmem := List.mem_of_getElem? he
        obtain ⟨A2, c2, rfl, _⟩ := OwnL.shape o1
        have cpB : Below w.heap.size w (wr.alloc (.cells #[.int .i64 e.cyl, .int .i64 e.heads, .int .i64 e.per, .int .i64 e.size, .slice A2 e.secs.length c2] 43)) := Below.alloc hb zr _
        have HD : Hid (∀ x : Wb (wr.alloc (.cells #[.int .i64 e.cyl, .int .i64 e.heads, .int .i64 e.per, .int .i64 e.size, .slice A2 e.secs.length c2] 43)), Calls Tryz.prog 84 #[dscV e (.slice A2 e.secs.length c2)] x.1 fun e' w' => e' = .returned (.bool (discOk e)) ∧ Below x.1.heap.size x.1 w') := Lib.hid (fun x => disc_i B e _ x.1 (OwnL.below (OwnL.below o1 cpB) x.2) (hb2 e hmem) (hm e hmem))
        have HG : Hid (∀ x : Wb (wr.alloc (.cells #[.int .i64 e.cyl, .int .i64 e.heads, .int .i64 e.per, .int .i64 e.size, .slice A2 e.secs.length c2] 43)), Calls Tryz.prog 86 #[dscV e (.slice A2 e.secs.length c2), dscV z (.slice Az z.secs.length ccz)] x.1 fun e' w' => e' = .returned (.bool (sameG e z)) ∧ Below x.1.heap.size x.1 w') := Lib.hid (fun x => same_i e z _ _ _ _ _ _ x.1)
        have QZ := fun (j : Nat) (u : Value) (hu : (z.ints ++ [.slice Az z.secs.length ccz])[j]? = some u) (x : Wb (wr.alloc (.cells #[.int .i64 e.cyl, .int .i64 e.heads, .int .i64 e.per, .int .i64 e.size, .slice A2 e.secs.length c2] 43))) => Wb.cell (b := g) (o := j) ((World.cell?_alloc_old _ _ _ (by show g ≠ wr.heap.size; omega)).trans ((hb.cell (p := ⟨g, j, none⟩) hg).trans (HZ.out j u hu))) x
        have y0 := QZ 0 _ rfl
        have y1 := QZ 1 _ rfl
        have y2 := QZ 2 _ rfl
        have y3 := QZ 3 _ rfl
        have y4 := QZ 4 _ rfl
        have e0 : ∀ x : Wb (wr.alloc (.cells #[.int .i64 e.cyl, .int .i64 e.heads, .int .i64 e.per, .int .i64 e.size, .slice A2 e.secs.length c2] 43)), x.1.cell? ⟨wr.heap.size, 0, none⟩ = some (.int .i64 e.cyl) := fun x => Wb.cell (by simp) x
        have e1 : ∀ x : Wb (wr.alloc (.cells #[.int .i64 e.cyl, .int .i64 e.heads, .int .i64 e.per, .int .i64 e.size, .slice A2 e.secs.length c2] 43)), x.1.cell? ⟨wr.heap.size, 1, none⟩ = some (.int .i64 e.heads) := fun x => Wb.cell (by simp) x
        have e2 : ∀ x : Wb (wr.alloc (.cells #[.int .i64 e.cyl, .int .i64 e.heads, .int .i64 e.per, .int .i64 e.size, .slice A2 e.secs.length c2] 43)), x.1.cell? ⟨wr.heap.size, 2, none⟩ = some (.int .i64 e.per) := fun x => Wb.cell (by simp) x
        have e3 : ∀ x : Wb (wr.alloc (.cells #[.int .i64 e.cyl, .int .i64 e.heads, .int .i64 e.per, .int .i64 e.size, .slice A2 e.secs.length c2] 43)), x.1.cell? ⟨wr.heap.size, 3, none⟩ = some (.int .i64 e.size) := fun x => Wb.cell (by simp) x
        have e4 : ∀ x : Wb (wr.alloc (.cells #[.int .i64 e.cyl, .int .i64 e.heads, .int .i64 e.per, .int .i64 e.size, .slice A2 e.secs.length c2] 43)), x.1.cell? ⟨wr.heap.size, 4, none⟩ = some (.slice A2 e.secs.length c2) := fun x => Wb.cell (by simp) x
        have HE := Lib.hid he
        have hl0 : 0 < l.length := by omega
        clear o1 c1 PC QZ he
        cases h1 : discOk e
        · have HN := du_no (z := z) HE.out HK (by rw [h1]; rfl)
          go_wp2_with (fail)
          refine wp_region_wb (by kernel_rfl) (by kernel_rfl) ?_; (repeat (go_big_quiet_step (first | (go_at_call 84; exact Wb.calls (HD.out _)) | (go_at_call 86; exact Wb.calls (HG.out _))))); refine wpQuiet_nil ?_; rintro w1 ⟨⟨w1', hb1⟩, rfl⟩
          go_wp2
          go_ret
          exact ⟨ret_bool HN.symm, cpB.trans (hb1.mono (by simp; omega))⟩
        · cases h2 : sameG e z
          · have HN := du_no (z := z) HE.out HK (by rw [h1, h2]; rfl)
            go_wp2_with (fail)
            refine wp_region_wb (by kernel_rfl) (by kernel_rfl) ?_; (repeat (go_big_quiet_step (first | (go_at_call 84; exact Wb.calls (HD.out _)) | (go_at_call 86; exact Wb.calls (HG.out _))))); refine wpQuiet_nil ?_; rintro w1 ⟨⟨w1', hb1⟩, rfl⟩
            go_wp2
            go_ret
            exact ⟨ret_bool HN.symm, cpB.trans (hb1.mono (by simp; omega))⟩
          · have HN := du_yes (z := z) HE.out HK (by rw [h1, h2]; rfl)
            go_wp2_with (fail)
            refine wp_region_wb (by kernel_rfl) (by kernel_rfl) ?_; (repeat (go_big_quiet_step (first | (go_at_call 84; exact Wb.calls (HD.out _)) | (go_at_call 86; exact Wb.calls (HG.out _))))); refine wpQuiet_nil ?_; rintro w1 ⟨⟨w1', hb1⟩, rfl⟩
            go_wp2
            go_roundw
            case rel => exact ⟨k + 1, by omega, by go_num, cpB.trans (hb1.mono (by simp; omega)), HN⟩
            case measure => simp [intOf]; omega
      · go_wp2
        go_ret
        exact ⟨ret_bool (du_end (by omega) HK).symm, hb⟩
  · have b0 : inB l.length 1 5 = false := inB_f (by omega)
    have HF : Hid (dumpsOk l = false) := Lib.hid (by
      by_cases h : 5 < l.length
      · exact du_long h
      · obtain rfl : l = [] := List.eq_nil_of_length_eq_zero (by omega)
        rfl)
    clear hA
    go_enter Tryz.func100, Tryz.ntmps100
    go_wp2_with (first | (go_at_call 51; refine (within_i _ _ _ _).mono ?_; rintro e w1 ⟨rfl, rfl⟩) | (go_at_call 89; refine (size_dsc _ _ _ _ hn).mono ?_; rintro e w1 ⟨rfl, rfl⟩))
    go_ret
    exact ⟨ret_bool HF.out.symm, Below.refl _ _⟩
end Go.Proofs.YtfcdienphillnaaGreat
namespace Go.Proofs.YtfcdienphillnaaGreat
set_option linter.unusedVariables false
set_option linter.unusedSimpArgs false
open Go.RowKit
def crcR (x : Int) : Bool := inB x (-1) 65535
def parB (n : Nat) (s : ByteArray) : Bool := decide (s.size = 0) || decide (s.size = n)
def parOk (z : Dsc) (l : List ByteArray) : Bool := ((l.length : Int) == z.cyl * z.heads) && l.all (parB (szN z.size))
def evR (z : Dsc) (e : Evd) : Bool := (e.cr.length == z.secs.length) && (e.cr.all crcR && (parOk z e.p && parOk z e.q))
def evOk (e : Evd) : Bool := dumpsOk e.ds && evR (e.ds.headD default) e
theorem ev_no0 {e : Evd} (h : dumpsOk e.ds = false) : evOk e = false := by unfold evOk; rw [h, Bool.false_and]
theorem ev_at {e : Evd} {z : Dsc} (h : dumpsOk e.ds = true) (hz : e.ds[0]? = some z) : evOk e = evR z e := by
  have : e.ds.headD default = z := by
    cases hd : e.ds with
    | nil => rw [hd] at hz; cases hz
    | cons a r => rw [hd] at hz; simpa using hz
  unfold evOk; rw [h, this, Bool.true_and]
theorem ev_no1 {z : Dsc} {e : Evd} {X : Bool} (H : X = evR z e) (h : ¬ e.cr.length = z.secs.length) : X = false := by
  rw [H]; unfold evR; rw [show (e.cr.length == z.secs.length) = false by simpa using h, Bool.false_and]
theorem ev_yes1 {z : Dsc} {e : Evd} {X : Bool} (H : X = evR z e) (h : e.cr.length = z.secs.length) : X = (e.cr.all crcR && (parOk z e.p && parOk z e.q)) := by
  rw [H]; unfold evR; rw [show (e.cr.length == z.secs.length) = true by simpa using h, Bool.true_and]
theorem al_yes {α : Type} {f : α → Bool} {l : List α} {k : Nat} {s : α} {X R : Bool} (hs : l[k]? = some s) (H : Hid (X = ((l.drop k).all f && R))) (h : f s = true) : Hid (X = ((l.drop (k + 1)).all f && R)) := by
  obtain ⟨hk, rfl⟩ := List.getElem?_eq_some_iff.1 hs
  exact Lib.hid (by rw [H.out, List.drop_eq_getElem_cons hk, List.all_cons, h, Bool.true_and])
theorem al_no {α : Type} {f : α → Bool} {l : List α} {k : Nat} {s : α} {X R : Bool} (hs : l[k]? = some s) (H : Hid (X = ((l.drop k).all f && R))) (h : f s = false) : X = false := by
  obtain ⟨hk, rfl⟩ := List.getElem?_eq_some_iff.1 hs
  rw [H.out, List.drop_eq_getElem_cons hk, List.all_cons, h, Bool.false_and, Bool.false_and]
theorem al_end {α : Type} {f : α → Bool} {l : List α} {k : Nat} {X R : Bool} (hk : l.length ≤ k) (H : Hid (X = ((l.drop k).all f && R))) : X = R := by
  rw [H.out, List.drop_of_length_le hk]; rfl
theorem pr_no {z : Dsc} {l : List ByteArray} {X R : Bool} (H : X = (parOk z l && R)) (h : ((l.length : Int) == z.cyl * z.heads) = false) : X = false := by
  rw [H]; unfold parOk; rw [h, Bool.false_and, Bool.false_and]
theorem pr_yes {z : Dsc} {l : List ByteArray} {X R : Bool} (H : X = (parOk z l && R)) (h : ((l.length : Int) == z.cyl * z.heads) = true) : Hid (X = ((l.drop 0).all (parB (szN z.size)) && R)) := by
  refine Lib.hid ?_
  rw [H]; unfold parOk; rw [h, Bool.true_and, List.drop_zero]
theorem dps_first {l : List Dsc} (h : dumpsOk l = true) : ∃ z, l[0]? = some z := by
  cases l with
  | nil => cases h
  | cons z r => exact ⟨z, rfl⟩
theorem dps_ok {l : List Dsc} {z : Dsc} (h : dumpsOk l = true) (hz : l[0]? = some z) : discOk z = true := by
  cases l with
  | nil => cases hz
  | cons a r =>
    by_cases h5 : (a :: r).length ≤ 5
    · rw [du_at hz h5] at h
      have := List.all_eq_true.1 h z (List.mem_of_getElem? hz)
      rw [Bool.and_eq_true] at this
      exact this.1
    · rw [du_long (by omega)] at h; cases h
theorem disc_geo {d : Dsc} (h : discOk d = true) : geoB d.cyl d.heads d.per d.size = true := by
  cases hg : geoB d.cyl d.heads d.per d.size
  · rw [dk_no1 hg] at h; cases h
  · rfl
/-- what a slice of strings holds -/
def StrAt (w : World) (A : Option Addr) (l : List ByteArray) : Prop := l = [] ∨ ∃ g, A = some ⟨g, 0, none⟩ ∧ g < w.heap.size ∧ ∀ (k : Nat) (s : ByteArray), l[k]? = some s → w.cell? ⟨g, k, none⟩ = some (.string s)
theorem StrAt.of {B c n : Nat} {w : World} {A : Option Addr} {l : List ByteArray} (h : StringL B w (.slice A n c) l) (hn : l.length = n) : StrAt w A l := by
  subst hn
  obtain ⟨A', c', e, hA⟩ := OwnL.shape h
  injection e with e1 _ _
  subst e1
  by_cases hl0 : l = []
  · exact .inl hl0
  · obtain ⟨g, rfl, _, hg⟩ := hA.resolve_left hl0
    exact .inr ⟨g, rfl, hg, fun k s hk => StringL.at_ h rfl hk⟩
theorem StrAt.below {w w' : World} {A : Option Addr} {l : List ByteArray} (h : StrAt w A l) (hb : Below w.heap.size w w') : StrAt w' A l := by
  rcases h with h | ⟨g, rfl, hg, hc⟩
  · exact .inl h
  · exact .inr ⟨g, rfl, Nat.lt_of_lt_of_le hg hb.size, fun k s hk => (hb.cell (p := ⟨g, _, none⟩) hg).trans (hc k s hk)⟩
theorem par_empty {n : Nat} {s : ByteArray} (h : s.size = 0) : parB n s = true := by unfold parB; rw [decide_eq_true h, Bool.true_or]
theorem par_same {n : Nat} {s : ByteArray} (h : s.size = n) : parB n s = true := by unfold parB; rw [decide_eq_true h, Bool.or_true]
theorem par_bad {n : Nat} {s : ByteArray} (h : ¬ s.size = 0) (h2 : ¬ s.size = n) : parB n s = false := by unfold parB; rw [decide_eq_false h, decide_eq_false h2]; rfl
theorem emp_yes {s : ByteArray} (h : s.size = 0) : (s.toList != []) = false := by
  have : s.toList = [] := by rw [ByteArray.toList_eq]; exact List.eq_nil_of_length_eq_zero (by simpa using h)
  rw [this]; rfl
theorem emp_no {s : ByteArray} (h : ¬ s.size = 0) : (s.toList != []) = true := by
  rw [bne_iff_ne]
  intro e
  rw [ByteArray.toList_eq] at e
  exact h (by have := congrArg List.length e; simpa using this)
theorem size_str (A : Option Addr) (n c : Nat) (w : World) (hn : n ≤ 1048576) : Calls Tryz.prog 101 #[.slice A n c] w fun e w' => e = .returned (.int .i64 n) ∧ w = w' := by
  go_enter Tryz.func101, Tryz.ntmps101
  go_wp2
  go_ret
  exact ⟨rfl, rfl⟩
end Go.Proofs.YtfcdienphillnaaGreat
