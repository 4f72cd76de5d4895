/- The bytes that most of some strings have: the walks. -/
import Derived.Test.YtignjjkldmninaaHDisc
import Derived.Test.YtignjjkldmninaaCols
import Derived.Test.YtignjjkldmninaaBuf
import Derived.Deep.WholeRow
/- Merging sectors: most data, first sector: the walks. -/
/- Merging sectors: plain laws. -/
namespace Go.Proofs.Ytignjjkldmninaa
set_option linter.unusedVariables false
open Go.RowKit
theorem toL_eq (a b : ByteArray) : (a.toList == b.toList) = true ↔ a = b := by
  constructor
  · intro h
    have h2 : a.toList = b.toList := by simpa using h
    rw [ByteArray.toList_eq, ByteArray.toList_eq] at h2
    exact ByteArray.ext (Array.toList_inj.1 h2)
  · rintro rfl; simp
/-- the string that occurs most among the first k looked at, of several the first one -/
def mostK (l : List ByteArray) : Nat → ByteArray
  | 0 => l.getD 0 .empty
  | k + 1 => if cntF (mostK l k) l < cntF (l.getD k .empty) l then l.getD k .empty else mostK l k
def mostS (l : List ByteArray) : ByteArray := mostK l l.length
theorem mostK_one {l : List ByteArray} : mostK l 1 = mostK l 0 := by
  rw [mostK, mostK]; split <;> rfl
theorem mostK_yes {l : List ByteArray} {k : Nat} {s : ByteArray} (hs : l[k]? = some s) (h : cntF (mostK l k) l < cntF s l) : mostK l (k + 1) = s := by
  rw [mostK, List.getD_eq_getElem?_getD, hs, Option.getD_some, if_pos h]
theorem mostK_no {l : List ByteArray} {k : Nat} {s : ByteArray} (hs : l[k]? = some s) (h : ¬ cntF (mostK l k) l < cntF s l) : mostK l (k + 1) = mostK l k := by
  rw [mostK, List.getD_eq_getElem?_getD, hs, Option.getD_some, if_neg h]
theorem mostK_in {l : List ByteArray} (h : l ≠ []) : ∀ k, k ≤ l.length → mostK l k ∈ l
  | 0, _ => by
    cases l with
    | nil => exact absurd rfl h
    | cons a l => simp [mostK]
  | k + 1, hk => by
    have ih := mostK_in h k (by omega)
    unfold mostK
    split
    · rw [List.getD_eq_getElem?_getD, List.getElem?_eq_getElem (by omega)]; exact List.getElem_mem _
    · exact ih
theorem cnt_pos {t : ByteArray} {l : List ByteArray} (h : t ∈ l) : 1 ≤ cntF t l := by
  obtain ⟨k, hk, e⟩ := List.getElem_of_mem h
  have h1 := cnt_drop (t := t) (l := l) (k := k) (s := t) (by rw [List.getElem?_eq_getElem hk, e])
  have h2 : cntF t (l.drop k) ≤ cntF t l := by
    have : ∀ (k : Nat) (l : List ByteArray), cntF t (l.drop k) ≤ cntF t l := by
      intro k
      induction k with
      | zero => intro l; simp
      | succ k ih =>
        intro l
        cases l with
        | nil => simp
        | cons a l => rw [List.drop_succ_cons]; refine Nat.le_trans (ih l) ?_; have := cnt_drop (t := t) (l := a :: l) (k := 0) (s := a) rfl; simp only [List.drop_zero, List.drop_succ_cons] at this; omega
    exact this k l
  rw [if_pos (by simp)] at h1
  omega
/-- the byte that most have, of several the lowest, below b -/
def voteK (c : Nat → Nat) : Nat → Nat
  | 0 => 0
  | b + 1 => if c (voteK c b) < c b then b else voteK c b
theorem voteK_lt (c : Nat → Nat) : ∀ b, voteK c b ≤ b - 1
  | 0 => Nat.le_refl _
  | b + 1 => by
    have := voteK_lt c b
    unfold voteK; split <;> omega
/-- how many strings have byte b at place i -/
def cntB (l : List ByteArray) (i b : Nat) : Nat := l.countP fun s => s.data.toList.getD i 0 == UInt8.ofNat b
def cntBk (l : List ByteArray) (i k b : Nat) : Nat := cntB (l.take k) i b
def byteV (l : List ByteArray) (i : Nat) : Nat := voteK (cntB l i) 256
def voteV (l : List ByteArray) : List Nat := (List.range (l.getD 0 .empty).size).map (byteV l)
theorem byteV_lt (l : List ByteArray) (i : Nat) : byteV l i < 256 := by
  have := voteK_lt (cntB l i) 256; unfold byteV; omega
end Go.Proofs.Ytignjjkldmninaa
namespace Go.Proofs.Ytignjjkldmninaa
open Go.RowKit
def MostSt (D : List ByteArray) (k : Nat) (b : ByteArray) (x : Nat) : Prop := (k = 0 ∧ x = 0) ∨ (b = mostK D k ∧ x = cntF b D)
theorem most_yes {D : List ByteArray} {k x : Nat} {b s : ByteArray} (h : MostSt D k b x) (hs : D[k]? = some s) (hx : x < cntF s D) : MostSt D (k + 1) s (cntF s D) := by
  refine .inr ⟨?_, rfl⟩
  rcases h with ⟨rfl, rfl⟩ | ⟨rfl, rfl⟩
  · rw [mostK_one, mostK, List.getD_eq_getElem?_getD, hs]; rfl
  · exact (mostK_yes hs hx).symm
theorem most_no {D : List ByteArray} {k x : Nat} {b s : ByteArray} (h : MostSt D k b x) (hs : D[k]? = some s) (hx : ¬ x < cntF s D) : MostSt D (k + 1) b x := by
  rcases h with ⟨rfl, rfl⟩ | ⟨rfl, rfl⟩
  · have := cnt_pos (List.mem_of_getElem? hs); omega
  · exact .inr ⟨(mostK_no hs hx).symm, rfl⟩
theorem most_end {D : List ByteArray} {x : Nat} {b : ByteArray} (h : MostSt D D.length b x) (h0 : D ≠ []) : b = mostS D := by
  rcases h with ⟨h, _⟩ | ⟨h, _⟩
  · exact absurd (List.eq_nil_of_length_eq_zero h) h0
  · exact h
def secDs (l : List Sec) : List ByteArray := l.map Sec.data
theorem secDs_len (l : List Sec) : (secDs l).length = l.length := by simp [secDs]
theorem secDs_get {l : List Sec} {k : Nat} {e : Sec} (h : l[k]? = some e) : (secDs l)[k]? = some e.data := by rw [secDs, List.getElem?_map, h]; rfl
set_option maxRecDepth 20000 in
set_option maxHeartbeats 4000000 in
theorem most_i (B : Nat) (l : List Sec) (v : Value) (w : World) (h : SecOwn B w v l) (hn : l.length ≤ 1048576) (h0 : l ≠ []) :
    Calls Try.prog 113 #[v] w fun e w' => e = .returned (.string (mostS (secDs l))) ∧ Below w.heap.size w w' := by
  obtain ⟨A, c, rfl, hA⟩ := OwnL.shape h
  obtain ⟨g, rfl, _, hg⟩ := hA.resolve_left h0
  have HC0 := Lib.hid (fun (k : Nat) (e : Sec) (hk : l[k]? = some e) => OwnL.cell Sec.len h hk (j := 0) rfl)
  have HC1 := Lib.hid (fun (k : Nat) (e : Sec) (hk : l[k]? = some e) => OwnL.cell Sec.len h hk (j := 1) rfl)
  have HE := Lib.hid (fun b x (hh : MostSt (secDs l) (secDs l).length b x) => most_end hh (by intro e; have := congrArg List.length e; rw [secDs_len] at this; exact h0 (List.eq_nil_of_length_eq_zero this)))
  rw [secDs_len] at HE
  have hcl := fun t => cnt_le t (secDs l)
  rw [secDs_len] at hcl
  clear hA h h0
  go_enter Try.func113, Try.ntmps113
  go_wp2
  go_loopw [12, 3, 4] (fun i b m wr => ∃ (k x : Nat) (s : ByteArray), k ≤ l.length ∧ i = .int .i64 k ∧ b = .string s ∧ m = .int .i64 x ∧ x ≤ l.length ∧ Below w.heap.size w wr ∧ Hid (MostSt (secDs l) k s x)) (fun i _ _ _ => l.length - (intOf i).toNat)
  case atStart => exact ⟨0, 0, .empty, by omega, rfl, rfl, rfl, by omega, Below.refl _ _, Lib.hid (.inl ⟨rfl, rfl⟩)⟩
  case round =>
    obtain ⟨k, x, s, hk, rfl, rfl, rfl, hx, hb, HM⟩ := hrel
    have zr := hb.size
    by_cases hlt : k < l.length
    · obtain ⟨e, he⟩ : ∃ e, l[k]? = some e := ⟨l[k], List.getElem?_eq_getElem hlt⟩
      have p0 := (hb.cell (p := ⟨g, _, none⟩) hg).trans (HC0.out k e he)
      have p1 := (hb.cell (p := ⟨g, _, none⟩) hg).trans (HC1.out k e he)
      simp only [Nat.add_zero] at p0
      have HY := Lib.hid (fun (hx : x < cntF e.data (secDs l)) => most_yes HM.out (secDs_get he) hx)
      have HN := Lib.hid (fun (hx : ¬ x < cntF e.data (secDs l)) => most_no HM.out (secDs_get he) hx)
      have hcle := hcl e.data
      generalize hwo : wr = wo at *; clear hwo
      have hB0 : Below wo.heap.size wo (wo.alloc (.cells #[.string e.data, .int .i64 e.state] 48)) := Below.alloc (Below.refl _ _) (Nat.le_refl _) _
      have hz0 : wo.heap.size < (wo.alloc (.cells #[.string e.data, .int .i64 e.state] 48)).heap.size := by simp
      have hq0 : (wo.alloc (.cells #[.string e.data, .int .i64 e.state] 48)).cell? ⟨wo.heap.size, 0, none⟩ = some (.string e.data) := by simp [go_sem]
      clear he HM hcl
      go_wp2
      go_loopw [18, 7] (fun i m wx => ∃ j y : Nat, j ≤ l.length ∧ i = .int .i64 j ∧ m = .int .i64 y ∧ y ≤ j ∧ Below wo.heap.size wo wx ∧ wo.heap.size < wx.heap.size ∧ wx.cell? ⟨wo.heap.size, 0, none⟩ = some (.string e.data) ∧ Hid (cntF e.data (secDs l) = y + cntF e.data ((secDs l).drop j))) (fun i _ _ => l.length - (intOf i).toNat)
      case atStart => exact ⟨0, 0, by omega, rfl, rfl, by omega, hB0, hz0, hq0, Lib.hid (by simp)⟩
      case round =>
        clear hB0 hz0 hq0
        obtain ⟨j, y, hj, rfl, rfl, hy, hbx, hzx, hq, HK⟩ := hrel
        by_cases hltj : j < l.length
        · obtain ⟨f, hf⟩ : ∃ f, l[j]? = some f := ⟨l[j], List.getElem?_eq_getElem hltj⟩
          have r0 := (hbx.cell (p := ⟨g, j * 2, none⟩) (Nat.lt_of_lt_of_le hg zr)).trans ((hb.cell (p := ⟨g, j * 2, none⟩) hg).trans (HC0.out j f hf))
          have r1 := (hbx.cell (p := ⟨g, j * 2 + 1, none⟩) (Nat.lt_of_lt_of_le hg zr)).trans ((hb.cell (p := ⟨g, j * 2 + 1, none⟩) hg).trans (HC1.out j f hf))
          have HD := Lib.hid (cnt_drop (t := e.data) (secDs_get hf))
          have hb1 : Below wo.heap.size wo (wr.alloc (.cells #[.string f.data, .int .i64 f.state] 48)) := Below.alloc hbx hbx.size _
          have hq1 := (World.cell?_alloc_old wr (.cells #[.string f.data, .int .i64 f.state] 48) ⟨wo.heap.size, 0, none⟩ (Nat.ne_of_lt hzx)).trans hq
          clear hf
          cases hc : (f.data.toList == e.data.toList)
          · have HN : Hid (cntF e.data (secDs l) = y + cntF e.data ((secDs l).drop (j + 1))) := Lib.hid (by rw [HK.out, HD.out, hc]; simp)
            go_wp2
            go_roundw
            case rel => exact ⟨j + 1, y, by omega, by go_num, rfl, by omega, hb1, by simp; omega, hq1, HN⟩
            case measure => simp [intOf]; omega
          · have HN : Hid (cntF e.data (secDs l) = (y + 1) + cntF e.data ((secDs l).drop (j + 1))) := Lib.hid (by rw [HK.out, HD.out, hc]; simp; omega)
            go_wp2
            go_roundw
            case rel => exact ⟨j + 1, y + 1, by omega, by go_num, by go_num, by omega, hb1, by simp; omega, hq1, HN⟩
            case measure => simp [intOf]; omega
        · have HX : Hid (cntF e.data (secDs l) = y) := Lib.hid (by rw [HK.out, List.drop_of_length_le (by rw [secDs_len]; omega)]; simp [cntF])
          rw [HX.out] at HY HN hcle
          by_cases hxy : x < y
          · have HM2 := Lib.hid (HY.out hxy)
            have d1 : decide ((x : Int) < (y : Int)) = true := decide_eq_true (by omega)
            clear HY HN
            go_wp2
            go_roundw
            case rel => exact ⟨k + 1, y, e.data, by omega, by go_num, rfl, rfl, hcle, hb.trans (hbx.mono zr), HM2⟩
            case measure => simp [intOf]; omega
          · have HM2 := Lib.hid (HN.out hxy)
            have d1 : decide ((x : Int) < (y : Int)) = false := decide_eq_false (by omega)
            clear HY HN
            go_wp2
            go_roundw
            case rel => exact ⟨k + 1, x, s, by omega, by go_num, rfl, rfl, hx, hb.trans (hbx.mono zr), HM2⟩
            case measure => simp [intOf]; omega
    · obtain rfl : k = l.length := by omega
      have HX := Lib.hid (HE.out _ _ HM.out)
      go_wp2
      go_ret
      exact ⟨by rw [HX.out]; rfl, hb⟩
set_option maxRecDepth 20000 in
set_option maxHeartbeats 4000000 in
theorem most_s (B : Nat) (D : List ByteArray) (v : Value) (w : World) (h : StringL B w v D) (hn : D.length ≤ 1048576) (h0 : D ≠ []) :
    Calls Try.prog 110 #[v] w fun e w' => e = .returned (.string (mostS D)) ∧ w = w' := by
  have HN := Lib.hid (fun t => count_s B D v t w h hn)
  obtain ⟨A, c, rfl, hA⟩ := OwnL.shape h
  obtain ⟨g, rfl, _, hg⟩ := hA.resolve_left h0
  have HC := Lib.hid (fun k s (hk : D[k]? = some s) => StringL.at_ h rfl hk)
  have hl : 0 < D.length := List.length_pos_iff.2 h0
  obtain ⟨s0, hs0⟩ : ∃ s, D[0]? = some s := ⟨D[0], List.getElem?_eq_getElem hl⟩
  have p0 := HC.out 0 s0 hs0
  have H0 : Hid (s0 = mostK D 1) := Lib.hid (by rw [mostK_one, mostK, List.getD_eq_getElem?_getD, hs0]; rfl)
  have hcl := fun t => cnt_le t D
  clear hA h h0 hs0
  go_enter Try.func110, Try.ntmps110
  go_wp2
  go_loop [4, 3] (fun i b => ∃ (k : Nat) (s : ByteArray), 1 ≤ k ∧ k ≤ D.length ∧ i = .int .i64 k ∧ b = .string s ∧ Hid (s = mostK D k)) (fun i _ => D.length - (intOf i).toNat)
  case atStart => exact ⟨1, s0, by omega, by omega, rfl, rfl, H0⟩
  case round =>
    clear H0 p0
    obtain ⟨k, s, hk1, hk, rfl, rfl, HM⟩ := hrel
    by_cases hlt : k < D.length
    · obtain ⟨t, ht⟩ : ∃ t, D[k]? = some t := ⟨D[k], List.getElem?_eq_getElem hlt⟩
      have q0 := HC.out k t ht
      have HA := Lib.hid (HN.out t)
      have HB := Lib.hid (HN.out s)
      have h1 := hcl t
      have h2 := hcl s
      by_cases hx : cntF s D < cntF t D
      · have HM2 : Hid (t = mostK D (k + 1)) := Lib.hid (mostK_yes ht (by rw [← HM.out]; exact hx)).symm
        generalize cntF s D = x at *
        generalize cntF t D = y at *
        have d1 : decide ((x : Int) < (y : Int)) = true := decide_eq_true (by omega)
        clear ht
        go_wp2_with (fail)
        refine HA.out.mono ?_; rintro e w1 ⟨rfl, rfl⟩
        go_wp2_with (fail)
        refine HB.out.mono ?_; rintro e w1 ⟨rfl, rfl⟩
        go_wp2
        go_round
        case rel => exact ⟨k + 1, t, by omega, by omega, by go_num, rfl, HM2⟩
        case measure => simp [intOf]; omega
      · have HM2 : Hid (s = mostK D (k + 1)) := Lib.hid ((mostK_no ht (by rw [← HM.out]; exact hx)).trans HM.out.symm).symm
        generalize cntF s D = x at *
        generalize cntF t D = y at *
        have d1 : decide ((x : Int) < (y : Int)) = false := decide_eq_false (by omega)
        clear ht
        go_wp2_with (fail)
        refine HA.out.mono ?_; rintro e w1 ⟨rfl, rfl⟩
        go_wp2_with (fail)
        refine HB.out.mono ?_; rintro e w1 ⟨rfl, rfl⟩
        go_wp2
        go_round
        case rel => exact ⟨k + 1, s, by omega, by omega, by go_num, rfl, HM2⟩
        case measure => simp [intOf]; omega
    · obtain rfl : k = D.length := by omega
      go_wp2
      go_ret
      exact ⟨by rw [HM.out]; rfl, rfl⟩
/-- the first sector with a state and data, -1 if there is none -/
def firF (st : Int) (d : ByteArray) : Nat → List Sec → Int
  | _, [] => -1
  | k, s :: r => if (s.state == st && s.data.toList == d.toList) = true then (k : Int) else firF st d (k + 1) r
theorem fir_yes {st : Int} {d : ByteArray} {l : List Sec} {k : Nat} {e : Sec} (he : l[k]? = some e) (h : (e.state == st && e.data.toList == d.toList) = true) : firF st d k (l.drop k) = k := by
  obtain ⟨hk, rfl⟩ := List.getElem?_eq_some_iff.1 he
  rw [List.drop_eq_getElem_cons hk, firF, if_pos h]
theorem fir_no {st : Int} {d : ByteArray} {l : List Sec} {k : Nat} {e : Sec} (he : l[k]? = some e) (h : (e.state == st && e.data.toList == d.toList) = false) : firF st d k (l.drop k) = firF st d (k + 1) (l.drop (k + 1)) := by
  obtain ⟨hk, rfl⟩ := List.getElem?_eq_some_iff.1 he
  rw [List.drop_eq_getElem_cons hk, firF, if_neg (by rw [h]; decide)]
set_option maxRecDepth 20000 in
set_option maxHeartbeats 4000000 in
theorem first_s (B : Nat) (l : List Sec) (v : Value) (st : Int) (d : ByteArray) (w : World) (h : SecOwn B w v l) (hn : l.length ≤ 1048576) :
    Calls Try.prog 111 #[v, .int .i64 st, .string d] w fun e w' => e = .returned (.int .i64 (firF st d 0 l)) ∧ w = w' := by
  obtain ⟨A, c, rfl, hA⟩ := OwnL.shape h
  by_cases hl0 : l = []
  · subst hl0
    go_enter Try.func111, Try.ntmps111
    go_wp2
    refine wp_loop_once ?_
    go_wp2
    go_ret
    exact ⟨rfl, rfl⟩
  obtain ⟨g, rfl, _, hg⟩ := hA.resolve_left hl0
  have HC0 := Lib.hid (fun (k : Nat) (e : Sec) (hk : l[k]? = some e) => OwnL.cell Sec.len h hk (j := 0) rfl)
  have HC1 := Lib.hid (fun (k : Nat) (e : Sec) (hk : l[k]? = some e) => OwnL.cell Sec.len h hk (j := 1) rfl)
  clear hA h hl0
  go_enter Try.func111, Try.ntmps111
  go_wp2
  go_loop [7] (fun i => ∃ k : Nat, k ≤ l.length ∧ i = .int .i64 k ∧ Hid (firF st d 0 l = firF st d k (l.drop k))) (fun i => l.length - (intOf i).toNat)
  case atStart => exact ⟨0, by omega, rfl, Lib.hid rfl⟩
  case round =>
    obtain ⟨k, hk, rfl, HK⟩ := hrel
    by_cases hlt : k < l.length
    · obtain ⟨e, he⟩ : ∃ e, l[k]? = some e := ⟨l[k], List.getElem?_eq_getElem hlt⟩
      have p0 := HC0.out k e he
      have p1 := HC1.out k e he
      simp only [Nat.add_zero] at p0
      cases h1 : (e.state == st)
      · have HN : Hid (firF st d 0 l = firF st d (k + 1) (l.drop (k + 1))) := Lib.hid (HK.out.trans (fir_no he (by rw [h1]; rfl)))
        clear he
        go_wp2
        go_round
        case rel => exact ⟨k + 1, by omega, by go_num, HN⟩
        case measure => simp [intOf]; omega
      · cases h2 : (e.data.toList == d.toList)
        · have HN : Hid (firF st d 0 l = firF st d (k + 1) (l.drop (k + 1))) := Lib.hid (HK.out.trans (fir_no he (by rw [h1, h2]; rfl)))
          clear he
          go_wp2
          go_round
          case rel => exact ⟨k + 1, by omega, by go_num, HN⟩
          case measure => simp [intOf]; omega
        · have HN : Hid (firF st d 0 l = (k : Int)) := Lib.hid (HK.out.trans (fir_yes he (by rw [h1, h2]; rfl)))
          clear he
          go_wp2
          go_ret
          exact ⟨ret_int HN.out.symm, rfl⟩
    · have HX : Hid (firF st d 0 l = -1) := Lib.hid (by rw [HK.out, List.drop_of_length_le (by omega)]; rfl)
      go_wp2
      go_ret
      exact ⟨ret_int HX.out.symm, rfl⟩
end Go.Proofs.Ytignjjkldmninaa
namespace Go.Proofs.Ytignjjkldmninaa
open Go.RowKit
/-- an array of 256 counts -/
def cArr (f : Nat → Nat) : Array Value := Array.ofFn (n := 256) fun b => .int .i64 (f b.val : Nat)
theorem cArr_size (f : Nat → Nat) : (cArr f).size = 256 := by simp [cArr]
theorem cArr_get (f : Nat → Nat) {b : Nat} (h : b < 256) : (cArr f)[b]? = some (.int .i64 (f b : Nat)) := by simp [cArr, h]
theorem cArr_set (f f' : Nat → Nat) {x : Nat} (hx : x < 256) (h : ∀ b, b < 256 → f' b = if b = x then f x + 1 else f b) : (cArr f).setIfInBounds x (.int .i64 ((f x + 1 : Nat) : Int)) = cArr f' := by
  apply Array.ext_getElem?
  intro i
  rw [Array.getElem?_setIfInBounds]
  by_cases hi : i < 256
  · rw [cArr_get f' hi, h i hi]
    by_cases e : x = i
    · subst e; simp [cArr_size, hi]
    · rw [if_neg e, cArr_get f hi, if_neg (Ne.symm e)]
  · rw [if_neg (by rintro rfl; exact hi hx), Array.getElem?_eq_none (by rw [cArr_size]; omega), Array.getElem?_eq_none (by rw [cArr_size]; omega)]
theorem cArr_zero : Array.replicate 256 (Value.int .i64 0) = cArr (fun _ => 0) := by
  apply Array.ext_getElem?
  intro i
  by_cases hi : i < 256
  · rw [cArr_get _ hi]; simp [hi]
  · rw [Array.getElem?_eq_none (by simp; omega), Array.getElem?_eq_none (by rw [cArr_size]; omega)]
theorem arr_info : (Try.prog.info? 135).map (fun i => (i.zero, i.size)) = some (some (.agg (Array.replicate 256 (.int .i64 0))), 256) := by kernel_rfl
theorem cntBk_le (D : List ByteArray) (i k b : Nat) : cntBk D i k b ≤ k := by
  unfold cntBk cntB
  exact Nat.le_trans List.countP_le_length (by simp; omega)
theorem cnt_next {D : List ByteArray} {i k : Nat} {s : ByteArray} (hs : D[k]? = some s) (hi : i < s.size) : ∀ b, b < 256 → cntBk D i (k + 1) b = if b = s[i].toNat then cntBk D i k s[i].toNat + 1 else cntBk D i k b := by
  intro b hb
  obtain ⟨hk, rfl⟩ := List.getElem?_eq_some_iff.1 hs
  have hd : D[k].data.toList.getD i 0 = D[k][i] := by
    rw [List.getD_eq_getElem?_getD, List.getElem?_eq_getElem (by simpa using hi)]; rfl
  have e : ∀ c, cntBk D i (k + 1) c = cntBk D i k c + if (D[k][i] == UInt8.ofNat c) = true then 1 else 0 := fun c => by
    unfold cntBk cntB
    rw [List.take_succ_eq_append_getElem hk, List.countP_append, List.countP_singleton, hd]
  rw [e b]
  by_cases hbe : b = D[k][i].toNat
  · subst hbe
    rw [if_pos rfl, if_pos (by simp)]
  · rw [if_neg hbe, if_neg, Nat.add_zero]
    intro h
    have h2 : D[k][i] = UInt8.ofNat b := by simpa using h
    apply hbe; rw [h2, UInt8.toNat_ofNat']; omega
set_option maxRecDepth 20000 in
set_option maxHeartbeats 1000000 in
theorem vote_i (B : Nat) (D : List ByteArray) (v : Value) (w : World) (h : StringL B w v D) (hn : D.length ≤ 1048576) (h0 : D ≠ []) (n : Nat) (hs : ∀ s ∈ D, s.size = n) (hn2 : n ≤ 1048576) :
    Calls Try.prog 114 #[v] w fun e w' => e = .returned (.string (strN (voteV D))) ∧ Below w.heap.size w w' := by
  obtain ⟨A, c, rfl, hA⟩ := OwnL.shape h
  obtain ⟨g, rfl, _, hg⟩ := hA.resolve_left h0
  have HC := Lib.hid (fun k s (hk : D[k]? = some s) => StringL.at_ h rfl hk)
  have hl : 0 < D.length := List.length_pos_iff.2 h0
  obtain ⟨s0, hs0⟩ : ∃ s, D[0]? = some s := ⟨D[0], List.getElem?_eq_getElem hl⟩
  have p0 := HC.out 0 s0 hs0
  have hs00 : s0.size = n := hs s0 (List.mem_of_getElem? hs0)
  obtain ⟨hz, hsz⟩ := zero_of_info arr_info
  rw [cArr_zero] at hz
  obtain ⟨wb, hmk, hbuf, hbb, hzb⟩ := buf_made w n (by omega)
  have HS := Lib.hid hs
  have HS0 := Lib.hid hs0
  subst hs00
  clear hA h h0 hs0 hs
  go_enter Try.func114, Try.ntmps114
  go_wp2_with (fail)
  go_loopw [18] (fun i wr => ∃ (k : Nat) (bl : List Nat), k ≤ s0.size ∧ i = .int .i64 k ∧ Below w.heap.size w wr ∧ w.heap.size < wr.heap.size ∧ Hid (bl.length = s0.size) ∧ Hid (Buf wr w.heap.size bl) ∧ Hid (∀ j, j < k → bl[j]? = some (byteV D j))) (fun i _ => s0.size - (intOf i).toNat)
  case atStart => exact ⟨0, _, by omega, rfl, hbb, by omega, Lib.hid (by simp), Lib.hid hbuf, Lib.hid fun j hj => by omega⟩
  case round =>
    clear hbuf hbb hzb hmk
    obtain ⟨i, bl, hi, rfl, hb, hzr, HL, HB, HV⟩ := hrel
    have zr := hb.size
    by_cases hlt : i < s0.size
    · generalize hwo : wr = wo at *; clear hwo
      have hA0 : ((wo.alloc (.cells (cArr fun _ => 0) 135)).heap[wo.heap.size]? = some (.cells (cArr (cntBk D i 0)) 135 (0, 0))) := by
        rw [heap_alloc_last]; congr 3
      have hB0 : Below wo.heap.size wo (wo.alloc (.cells (cArr fun _ => 0) 135)) := Below.alloc (Below.refl _ _) (Nat.le_refl _) _
      have HA0 := Lib.hid hA0
      clear hA0
      go_wp2_with (fail)
      go_loopw [23] (fun j wx => ∃ k : Nat, k ≤ D.length ∧ j = .int .i64 k ∧ Below wo.heap.size wo wx ∧ Hid (wx.heap[wo.heap.size]? = some (.cells (cArr (cntBk D i k)) 135 (0, 0)))) (fun j _ => D.length - (intOf j).toNat)
      case atStart => exact ⟨0, by omega, rfl, hB0, HA0⟩
      case round =>
        clear HA0 hB0
        obtain ⟨k, hk, rfl, hbx, HX⟩ := hrel
        have zx := hbx.size
        by_cases hltk : k < D.length
        · obtain ⟨s, hs⟩ : ∃ s, D[k]? = some s := ⟨D[k], List.getElem?_eq_getElem hltk⟩
          have q0 := (hbx.cell (p := ⟨g, k, none⟩) (Nat.lt_of_lt_of_le hg zr)).trans ((hb.cell (p := ⟨g, k, none⟩) hg).trans (HC.out k s hs))
          have hsz1 := HS.out s (List.mem_of_getElem? hs)
          have his : i < s.size := by omega
          have hx256 : s[i].toNat < 256 := s[i].toNat_lt
          have HXN := Lib.hid (cnt_next (i := i) hs his)
          have q1 : wr.cell? ⟨wo.heap.size, s[i].toNat, none⟩ = some (.int .i64 (cntBk D i k s[i].toNat : Nat)) := (cell_of_row wr _ _ _ _ _ HX.out).trans (cArr_get _ hx256)
          have q2 := frozen_of_row wr wo.heap.size s[i].toNat _ _ HX.out
          have hcb : cntBk D i k s[i].toNat ≤ 1048576 := Nat.le_trans (cntBk_le _ _ _ _) (by omega)
          clear hs hsz1
          go_wp2_with (fail)
          go_roundw
          case rel => exact ⟨k + 1, by omega, by go_num, Below.setCell hbx (p := ⟨wo.heap.size, s[i].toNat, none⟩) (Nat.le_refl _) _, Lib.hid (by rw [← cArr_set _ _ hx256 HXN.out]; exact heap_setCell_same _ _ _ _ _ _ HX.out)⟩
          case measure => simp [intOf]; omega
        · obtain rfl : k = D.length := by omega
          have HXE : Hid (wr.heap[wo.heap.size]? = some (.cells (cArr (cntB D i)) 135 (0, 0))) := Lib.hid (by have := HX.out; unfold cntBk at this; rw [List.take_length] at this; exact this)
          have hQ : ∀ b, b < 256 → wr.cell? ⟨wo.heap.size, b, none⟩ = some (.int .i64 (cntB D i b : Nat)) := fun b hb => (cell_of_row wr _ _ _ _ _ HXE.out).trans (cArr_get _ hb)
          have HQ := Lib.hid hQ
          have hIX : ∀ (b : Nat) (W : World), b < 256 → (Instr.index 135 (.agg (cArr (cntB D i))) (.int .i64 (b : Int))).run Try.prog W = .ok (.int .i64 (cntB D i b : Nat)) W := fun b W hb => by
            have hu : Try.prog.underlying 135 = some (.array 256 3) := Try.underlying135
            have hg := cArr_get (cntB D i) hb
            have h1 : (0 : Int) ≤ (b : Int) := by omega
            have h2 : (b : Int) < 256 := by omega
            have hag : ∀ W, (isAgg 3).run Try.prog W = .ok false W := fun W => by kernel_rfl
            simp [Instr.index, hu, go_sem, asIntOf, h1, h2, part, hag, hg]
            intro h; omega
          have HIX := Lib.hid hIX
          have HCL := Lib.hid (fun b => cntBk_le D i D.length b)
          clear HX hQ hIX
          go_wp2_with (first | (refine wpList_load_row rfl 135 _ rfl wo.heap.size rfl 135 (cArr (cntB D i)) (0, 0) _ HXE.out Try.underlying135 rfl (by rw [cArr_size]; exact hsz) ?_))
          go_loop [36, 8] (fun j y => ∃ b : Nat, b ≤ 256 ∧ j = .int .i64 b ∧ ∃ x : Nat, y = .int .i64 x ∧ x < 256 ∧ Hid (x = voteK (cntB D i) b)) (fun j _ => 256 - (intOf j).toNat)
          case atStart => exact ⟨0, by omega, rfl, 0, rfl, by omega, Lib.hid rfl⟩
          case round =>
            obtain ⟨b, hb256, rfl, x, rfl, hx, HX⟩ := hrel
            have q1 := HQ.out x hx
            have q3 := frozen_of_row wr wo.heap.size x _ _ HXE.out
            have hcx : cntB D i x ≤ 1048576 := by have := HCL.out x; unfold cntBk at this; rw [List.take_length] at this; omega
            by_cases hlb : b < 256
            · have hix := fun W => HIX.out b W hlb
              have hcb : cntB D i b ≤ 1048576 := by have := HCL.out b; unfold cntBk at this; rw [List.take_length] at this; omega
              by_cases hc : cntB D i x < cntB D i b
              · have HN : Hid (b = voteK (cntB D i) (b + 1)) := Lib.hid (by rw [voteK, ← HX.out, if_pos hc])
                generalize cntB D i x = cx at *
                generalize cntB D i b = cb at *
                have d1 : decide ((cx : Int) < (cb : Int)) = true := decide_eq_true (by omega)
                have d2 : decide (cx < cb) = true := decide_eq_true hc
                clear HX HQ HIX HXE hc
                go_wp2
                go_round
                case rel => exact ⟨b + 1, by omega, by go_num, b, rfl, hlb, HN⟩
                case measure => simp [intOf]; omega
              · have HN : Hid (x = voteK (cntB D i) (b + 1)) := Lib.hid (by rw [voteK, ← HX.out, if_neg hc])
                generalize cntB D i x = cx at *
                generalize cntB D i b = cb at *
                have d1 : decide ((cx : Int) < (cb : Int)) = false := decide_eq_false (by omega)
                have d2 : decide (cx < cb) = false := decide_eq_false hc
                clear HX HQ HIX HXE hc
                go_wp2
                go_round
                case rel => exact ⟨b + 1, by omega, by go_num, x, rfl, hx, HN⟩
                case measure => simp [intOf]; omega
            · obtain rfl : b = 256 := by omega
              have HXV : Hid (byteV D i = x) := Lib.hid HX.out.symm
              obtain ⟨y, hy⟩ : ∃ y, bl[i]? = some y := ⟨bl[i]'(by rw [HL.out]; omega), List.getElem?_eq_getElem _⟩
              have hB2 := Buf.below HB.out hbx hzr
              have r0 := (hB2 i y hy).1
              have r1 := (hB2 i y hy).2
              have HB3 := Lib.hid (hB2.set x hy)
              have hbl := HL.out
              have hxm : ((x : Int) % 256) = x := by omega
              clear hy hB2 HX HQ HIX HXE
              go_wp2
              go_roundw
              case rel => exact ⟨i + 1, bl.set i x, by omega, by go_num, Below.setCell (hb.trans (hbx.mono zr)) (p := ⟨w.heap.size, i, none⟩) (Nat.le_refl _) _, by simp; omega, Lib.hid (by rw [List.length_set]; exact HL.out), HB3, Lib.hid fun j hj => by
                by_cases e : j = i
                · subst e; rw [List.getElem?_set_self (by omega), HXV.out]
                · rw [List.getElem?_set_ne (Ne.symm e)]; exact HV.out j (by omega)⟩
              case measure => simp [intOf]; omega
    · obtain rfl : i = s0.size := by omega
      have HVV : Hid (bl = voteV D) := Lib.hid (by
        refine List.ext_getElem? fun j => ?_
        unfold voteV
        rw [List.getD_eq_getElem?_getD, HS0.out, Option.getD_some, List.getElem?_map]
        by_cases hj : j < s0.size
        · rw [HV.out j hj, List.getElem?_range hj]; rfl
        · rw [List.getElem?_eq_none (by rw [HL.out]; omega), List.getElem?_eq_none (by simp; omega)]; rfl)
      have hst := Buf.str (n := s0.size) (c := s0.size) HB.out HL.out
      rw [HVV.out] at hst
      clear HB HV HL
      go_wp2_with (fail)
      go_ret
      exact ⟨rfl, hb⟩
end Go.Proofs.Ytignjjkldmninaa
