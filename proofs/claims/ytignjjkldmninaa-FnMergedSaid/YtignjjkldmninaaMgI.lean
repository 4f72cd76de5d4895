/- mergeSector: the walk. -/
import Derived.Test.YtignjjkldmninaaMgS
import Derived.Test.YtignjjkldmninaaVDisc
import Derived.Test.YtignjjkldmninaaZeros
namespace Go.Proofs.Ytignjjkldmninaa
set_option linter.unusedVariables false
open Go.RowKit
def fltS (st : Int) (l : List Sec) : List Sec := l.filter fun s => s.state == st
theorem fltS_data (st : Int) (l : List Sec) : secDs (fltS st l) = stF st l := by
  induction l with
  | nil => rfl
  | cons e r ih =>
    unfold stF
    split
    · rename_i h; rw [← ih]; unfold secDs fltS; rw [List.filter_cons, if_pos h]; rfl
    · rename_i h; rw [← ih]; unfold secDs fltS; rw [List.filter_cons, if_neg h]
theorem fltS_len (st : Int) (l : List Sec) : (fltS st l).length = (stF st l).length := by rw [← fltS_data, secDs_len]
theorem flt_yes {st : Int} {l : List Sec} {k : Nat} {e : Sec} (he : l[k]? = some e) (h : (e.state == st) = true) : fltS st (l.take (k + 1)) = fltS st (l.take k) ++ [e] := by
  obtain ⟨hk, rfl⟩ := List.getElem?_eq_some_iff.1 he
  unfold fltS; rw [List.take_succ_eq_append_getElem hk, List.filter_append]; simp [h]
theorem flt_no {st : Int} {l : List Sec} {k : Nat} {e : Sec} (he : l[k]? = some e) (h : (e.state == st) = false) : fltS st (l.take (k + 1)) = fltS st (l.take k) := by
  obtain ⟨hk, rfl⟩ := List.getElem?_eq_some_iff.1 he
  unfold fltS; rw [List.take_succ_eq_append_getElem hk, List.filter_append]; simp [h]
theorem flt_le (st : Int) (l : List Sec) (k : Nat) : (fltS st (l.take k)).length ≤ k := by
  have := List.length_filter_le (fun s : Sec => s.state == st) (l.take k)
  unfold fltS; simp at this; omega
def stK (k : Nat) : Int := if k = 0 then 1 else if k = 1 then 4 else 2
/-- where a match is met: from and how many -/
def agrS (st : Int) (d : ByteArray) (l : List Sec) : Nat := (l.filter fun s => s.state == st && s.data.toList == d.toList).length
theorem agr_is (st : Int) (d : ByteArray) (l : List Sec) : agrS st d l = cntF d (stF st l) := by
  unfold agrS
  induction l with
  | nil => rfl
  | cons e r ih =>
    rw [List.filter_cons]
    unfold stF
    by_cases h : (e.state == st) = true
    · rw [if_pos h, h, Bool.true_and]
      have := cnt_drop (t := d) (l := e.data :: stF st r) (k := 0) (s := e.data) rfl
      simp only [List.drop_zero, Nat.zero_add, List.drop_succ_cons] at this
      rw [this, ← ih]
      by_cases h2 : (e.data.toList == d.toList) = true
      · rw [if_pos h2, if_pos h2, List.length_cons]; omega
      · rw [if_neg h2, if_neg h2]; omega
    · rw [if_neg h, if_neg (by simp [h]), ih]
/-- the state of the loop that looks for them -/
def AgrSt (st : Int) (d : ByteArray) (l : List Sec) (k : Nat) (y : Int) (x : Nat) : Prop :=
  agrS st d l = x + agrS st d (l.drop k) ∧ firF st d 0 l = (if y < 0 then firF st d k (l.drop k) else y) ∧ -1 ≤ y ∧ y ≤ k ∧ x ≤ k
theorem agr_no {st : Int} {d : ByteArray} {l : List Sec} {k x : Nat} {y : Int} {e : Sec} (h : AgrSt st d l k y x) (he : l[k]? = some e) (hc : (e.state == st && e.data.toList == d.toList) = false) : AgrSt st d l (k + 1) y x := by
  obtain ⟨h1, h2, h3, h4, h5⟩ := h
  have hd : l.drop k = e :: l.drop (k + 1) := by obtain ⟨hk, rfl⟩ := List.getElem?_eq_some_iff.1 he; exact List.drop_eq_getElem_cons hk
  refine ⟨?_, ?_, h3, by omega, by omega⟩
  · rw [h1, hd]; unfold agrS; rw [List.filter_cons, if_neg (by rw [hc]; decide)]
  · rw [h2, fir_no he hc]
theorem agr_yes1 {st : Int} {d : ByteArray} {l : List Sec} {k x : Nat} {y : Int} {e : Sec} (h : AgrSt st d l k y x) (he : l[k]? = some e) (hc : (e.state == st && e.data.toList == d.toList) = true) (hy : y < 0) : AgrSt st d l (k + 1) k (x + 1) := by
  obtain ⟨h1, h2, h3, h4, h5⟩ := h
  have hd : l.drop k = e :: l.drop (k + 1) := by obtain ⟨hk, rfl⟩ := List.getElem?_eq_some_iff.1 he; exact List.drop_eq_getElem_cons hk
  refine ⟨?_, ?_, by omega, by omega, by omega⟩
  · rw [h1, hd]; unfold agrS; rw [List.filter_cons, if_pos hc, List.length_cons]; omega
  · rw [h2, if_pos hy, fir_yes he hc, if_neg (by omega)]
theorem agr_yes2 {st : Int} {d : ByteArray} {l : List Sec} {k x : Nat} {y : Int} {e : Sec} (h : AgrSt st d l k y x) (he : l[k]? = some e) (hc : (e.state == st && e.data.toList == d.toList) = true) (hy : ¬ y < 0) : AgrSt st d l (k + 1) y (x + 1) := by
  obtain ⟨h1, h2, h3, h4, h5⟩ := h
  have hd : l.drop k = e :: l.drop (k + 1) := by obtain ⟨hk, rfl⟩ := List.getElem?_eq_some_iff.1 he; exact List.drop_eq_getElem_cons hk
  refine ⟨?_, ?_, by omega, by omega, by omega⟩
  · rw [h1, hd]; unfold agrS; rw [List.filter_cons, if_pos hc, List.length_cons]; omega
  · rw [h2, if_neg hy, if_neg hy]
theorem agr_end {st : Int} {d : ByteArray} {l : List Sec} {x : Nat} {y : Int} (h : AgrSt st d l l.length y x) : x = cntF d (stF st l) ∧ y = firF st d 0 l := by
  obtain ⟨h1, h2, h3, h4, h5⟩ := h
  rw [List.drop_length] at h1 h2
  refine ⟨by rw [← agr_is, h1]; simp [agrS], ?_⟩
  rw [h2]
  split
  · simp [firF]; omega
  · rfl
set_option maxRecDepth 20000 in
set_option maxHeartbeats 8000000 in
theorem lsec_i (B : Nat) (l : List Sec) (v : Value) (w : World) (h : SecOwn B w v l) (hn : l.length ≤ 1048576) (h0 : l ≠ []) (n : Nat) (hs : ∀ s ∈ l, s.data.size = n) (hn2 : n ≤ 1048576) :
    Calls Try.prog 81 #[v] w fun e w' => e = .returned (mgV (mgS l)) ∧ Below w.heap.size w w' := by
  obtain ⟨i0, hi, hz0, hz1, hz2⟩ := info_parts scell_info
  obtain ⟨i1, ji, jz0, jz1, jz2⟩ := info_parts Sec.info
  obtain ⟨A, c, rfl, hA⟩ := OwnL.shape h
  obtain ⟨g, rfl, _, hg⟩ := hA.resolve_left h0
  have P0 : Hid (∀ k e, l[k]? = some e → w.cell? ⟨g, k * 2, none⟩ = some (.string e.data)) := Lib.hid fun k e hk => by have := OwnL.cell Sec.len h hk (j := 0) rfl; simpa using this
  have P1 : Hid (∀ k e, l[k]? = some e → w.cell? ⟨g, k * 2 + 1, none⟩ = some (.int .i64 e.state)) := Lib.hid fun k e hk => OwnL.cell Sec.len h hk (j := 1) rfl
  have hl0 : 0 < l.length := List.length_pos_iff.2 h0
  have hl1 : (0 : Int) < (l.length : Int) := by omega
  have HS := Lib.hid hs
  clear hA h hs
  have hB0 : Below w.heap.size w ((w.alloc (.cells #[.string .empty, .int .i64 0] 48)).alloc (.cells #[.int .i64 1, .int .i64 4, .int .i64 2] 2)) := Below.alloc (Below.alloc (Below.refl _ _) (Nat.le_refl _) _) (by simp) _
  have hz0' : ((w.alloc (.cells #[.string .empty, .int .i64 0] 48)).alloc (.cells #[.int .i64 1, .int .i64 4, .int .i64 2] 2)).heap.size = w.heap.size + 2 := by simp
  have HB : Hid (∀ W, Below (w.heap.size + 2) ((w.alloc (.cells #[.string .empty, .int .i64 0] 48)).alloc (.cells #[.int .i64 1, .int .i64 4, .int .i64 2] 2)) W → (W.cell? ⟨w.heap.size, 0, none⟩ = some (.string .empty) ∧ W.cell? ⟨w.heap.size, 1, none⟩ = some (.int .i64 0) ∧ (∀ j, W.frozen? ⟨w.heap.size, j, none⟩ = false)) ∧ ∀ k, k < 3 → W.cell? ⟨w.heap.size + 1, k, none⟩ = some (.int .i64 (stK k))) := Lib.hid fun W hW => by
    refine ⟨⟨(hW.cell (p := ⟨w.heap.size, 0, none⟩) (by show w.heap.size < _; omega)).trans (by simp [go_sem]), (hW.cell (p := ⟨w.heap.size, 1, none⟩) (by show w.heap.size < _; omega)).trans (by simp [go_sem]), fun j => (hW.frozen (p := ⟨w.heap.size, j, none⟩) (by show w.heap.size < _; omega)).trans (by simp [go_sem])⟩, fun k hk => (hW.cell (p := ⟨w.heap.size + 1, k, none⟩) (by show w.heap.size + 1 < _; omega)).trans ?_⟩
    match k, hk with
    | 0, _ => simp [go_sem, stK]
    | 1, _ => simp [go_sem, stK]
    | 2, _ => simp [go_sem, stK]
    | k + 3, hk => omega
  go_enter Try.func81, Try.ntmps81
  go_wp2
  go_loopw [18] (fun i wr => ∃ k : Nat, k ≤ 3 ∧ i = .int .i64 k ∧ Below (w.heap.size + 2) ((w.alloc (.cells #[.string .empty, .int .i64 0] 48)).alloc (.cells #[.int .i64 1, .int .i64 4, .int .i64 2] 2)) wr ∧ Hid (∀ j, j < k → stF (stK j) l = [])) (fun i _ => 3 - (intOf i).toNat)
  case atStart => exact ⟨0, by omega, rfl, Below.refl _ _, Lib.hid fun j hj => by omega⟩
  case round =>
    obtain ⟨k, hk, rfl, hb, HE⟩ := hrel
    have hbw := hB0.trans (hb.mono (by omega))
    have zr := hbw.size
    have zr2 : w.heap.size + 2 ≤ wr.heap.size := by have := hb.size; omega
    by_cases hlt : k < 3
    · have pk := (HB.out wr hb).2 k hlt
      have hstc : stK k = 1 ∨ stK k = 4 ∨ stK k = 2 := by
        match k, hlt with
        | 0, _ => exact .inl rfl
        | 1, _ => exact .inr (.inl rfl)
        | 2, _ => exact .inr (.inr rfl)
      have HEN : Hid (stF (stK k) l = [] → ∀ j, j < k + 1 → stF (stK j) l = []) := Lib.hid fun h1 j hj => by
        by_cases e : j = k
        · subst e; exact h1
        · exact HE.out j (by omega)
      have HV : Hid (stF (stK k) l ≠ [] → mgS l = (if stK k = 1 then mgG l else if stK k = 4 then mgW l else mgB l)) := Lib.hid fun h1 => by
        match k, hlt, HE, h1 with
        | 0, _, _, h1 => exact mgS_g h1
        | 1, _, HE, h1 => exact mgS_w (HE.out 0 (by omega)) h1
        | 2, _, HE, h1 => exact mgS_b (HE.out 0 (by omega)) (HE.out 1 (by omega)) h1
      generalize hst : stK k = st at *
      clear hst HE
      generalize hwo : wr = wo at *; clear hwo
      have hk3 : decide ((k : Int) < 3) = true := decide_eq_true (by omega)
      go_wp2
      go_loopw [24, 7, 8] (fun i x y wx => ∃ j : Nat, j ≤ l.length ∧ i = .int .i64 j ∧ Below wo.heap.size wo wx ∧ Hid (SecOwn wo.heap.size wx x (fltS st (l.take j))) ∧ Hid (StringL wo.heap.size wx y (secDs (fltS st (l.take j)))) ∧ Hid (∀ b, x.ownBlock = some b → y.ownBlock ≠ some b)) (fun i _ _ _ => l.length - (intOf i).toNat)
      case atStart => exact ⟨0, by omega, rfl, Below.refl _ _, Lib.hid OwnL.of_nil, Lib.hid OwnL.of_nil, Lib.hid fun b hb => by simp [Value.ownBlock] at hb⟩
      case round =>
        obtain ⟨j, hj, rfl, hbx, HX, HY, HD⟩ := hrel
        have zx := hbx.size
        have hfl := flt_le st l j
        obtain ⟨Ax, cx, rfl, _⟩ := OwnL.shape HX.out
        obtain ⟨Ay, cy, hvy, _⟩ := OwnL.shape HY.out
        rw [secDs_len] at hvy
        subst hvy
        by_cases hltj : j < l.length
        · obtain ⟨e, he⟩ : ∃ e, l[j]? = some e := ⟨l[j], List.getElem?_eq_getElem hltj⟩
          have p0 := (hbx.cell (p := ⟨g, j * 2, none⟩) (Nat.lt_of_lt_of_le hg zr)).trans ((hbw.cell (p := ⟨g, j * 2, none⟩) hg).trans (P0.out j e he))
          have p1 := (hbx.cell (p := ⟨g, j * 2 + 1, none⟩) (Nat.lt_of_lt_of_le hg zr)).trans ((hbw.cell (p := ⟨g, j * 2 + 1, none⟩) hg).trans (P1.out j e he))
          have hb1 : Below wo.heap.size wo (wr.alloc (.cells #[.string e.data, .int .i64 e.state] 48)) := Below.alloc hbx zx _
          have HX1 := Lib.hid (OwnL.alloc HX.out (.cells #[.string e.data, .int .i64 e.state] 48))
          have HY1 := Lib.hid (OwnL.alloc HY.out (.cells #[.string e.data, .int .i64 e.state] 48))
          cases hc : (e.state == st)
          · have HN := Lib.hid (flt_no he hc)
            clear he
            go_wp2
            go_roundw
            case rel => exact ⟨j + 1, by omega, by go_num, hb1, by rw [HN.out]; exact HX1, by rw [HN.out]; exact HY1, HD⟩
            case measure => simp [intOf]; omega
          · have HN := Lib.hid (flt_yes he hc)
            clear he
            generalize fltS st (l.take j) = F at *
            have HDS : Hid (secDs (F ++ [e]) = secDs F ++ [e.data]) := Lib.hid (by simp [secDs])
            have hl1 : F.length + 1 ≤ 16777216 := by omega
            have hl2 : (secDs F).length + 1 ≤ 16777216 := by rw [secDs_len]; omega
            have hlx : (F ++ [e]).length = F.length + 1 := by simp
            have hly : (secDs F ++ [e.data]).length = F.length + 1 := by rw [List.length_append, secDs_len]; rfl
            have hb2 : Below wo.heap.size wo ((wr.alloc (.cells #[.string e.data, .int .i64 e.state] 48)).alloc (.cells #[.string e.data, .int .i64 e.state] 48)) := Below.alloc hb1 hb1.size _
            have hbase := hb2.size
            have HX2 := Lib.hid (OwnL.alloc HX1.out (.cells #[.string e.data, .int .i64 e.state] 48))
            have HY2 := Lib.hid (OwnL.alloc HY1.out (.cells #[.string e.data, .int .i64 e.state] 48))
            have hbx0 : ((wr.alloc (.cells #[.string e.data, .int .i64 e.state] 48)).alloc (.cells #[.string e.data, .int .i64 e.state] 48)).cell? ⟨wr.heap.size, 0, none⟩ = some (.string e.data) := by simp [go_sem]
            have hzz : ((wr.alloc (.cells #[.string e.data, .int .i64 e.state] 48)).alloc (.cells #[.string e.data, .int .i64 e.state] 48)).heap.size = wr.heap.size + 2 := by simp
            go_wp2_with (first
              | (at_builtin; refine wpList_app1at Sec.cells 2 Sec.len _ rfl _ _ _ rfl wo.heap.size 48 i1 (.agg #[.string .empty, .int .i64 0]) 24 Try.underlying37 ji jz0 jz1 jz2 rfl (by decide) _ F rfl HX2.out _ 1 e rfl ?_ (by simp [Sec.cells, Value.oneCell']) hl1 (by decide) hbase ?_; (· intro q u hu; match q, hu with | 0, hu => (simp [Sec.cells] at hu; subst hu; simp) | 1, hu => (simp [Sec.cells] at hu; subst hu; simp) | q + 2, hu => simp [Sec.cells] at hu); intro v8 w8 how8 hg8' hbl8'; have hg8 : ((wr.alloc (.cells #[.string e.data, .int .i64 e.state] 48)).alloc (.cells #[.string e.data, .int .i64 e.state] 48)).grownBy w8 (Value.slice Ax F.length cx).ownBlock := hg8'; have hbl8 : v8.ownBlock = (Value.slice Ax F.length cx).ownBlock ∨ v8.ownBlock = some ((wr.alloc (.cells #[.string e.data, .int .i64 e.state] 48)).alloc (.cells #[.string e.data, .int .i64 e.state] 48)).heap.size := hbl8'; have hb8 : Below wo.heap.size wo w8 := own_grown_below HX2.out hb2 hg8 (Nat.le_refl _) hbase; have z8 := hb8.size; have hxlt := World.ownsRow.lt HX.out; have hb0 : w8.cell? ⟨wr.heap.size, 0, none⟩ = some (.string e.data) := World.grownBy.cell hg8 hbx0 (fun he => absurd (hxlt _ he.symm).2 (Nat.lt_irrefl _)); have HX8 := Lib.hid how8; have HY8 := Lib.hid (OwnL.kept HY2.out hg8 (by (cases h1 : (Value.slice Ay F.length cy).ownBlock with | none => exact .inl rfl | some q => exact .inr fun he => HD.out q he.symm h1))); have HD8 : Hid (∀ b, v8.ownBlock = some b → (Value.slice Ay F.length cy).ownBlock ≠ some b) := Lib.hid (fun b h1 h2 => hbl8.elim (fun h => HD.out b (by rw [← h]; exact h1) h2) (fun h => by have h3 := (World.ownsRow.lt HY.out b h2).2; rw [h, hzz] at h1; have h4 := Option.some.inj h1; omega)); obtain ⟨A8, c8, hv8, hA8⟩ := OwnL.shape how8; rw [hlx] at hv8; subst hv8; clear hA8 hg8' hbl8' how8 hg8 hbl8 hxlt)
              | (at_builtin; refine wpList_app1at scell 1 scell_len _ rfl _ _ _ rfl wo.heap.size 9 i0 (.string .empty) 16 Try.underlying85 hi hz0 hz1 hz2 rfl (by decide) _ (secDs F) rfl (HY8.out.alloc _) _ 1 e.data rfl ?_ (by simp [scell, Value.oneCell']) hl2 (by decide) (Nat.le_trans z8 (by simp)) ?_; (· intro q u hu; cases q with | zero => (simp [scell] at hu; subst hu; simp) | succ q => simp [scell] at hu); intro v9 w9 how9 hg9' hbl9'; have hg9 : (w8.alloc (.cells #[.string e.data] 9)).grownBy w9 (Value.slice Ay F.length cy).ownBlock := hg9'; have hbl9 : v9.ownBlock = (Value.slice Ay F.length cy).ownBlock ∨ v9.ownBlock = some (w8.alloc (.cells #[.string e.data] 9)).heap.size := hbl9'; have hb9 : Below wo.heap.size wo w9 := own_grown_below (HY8.out.alloc (.cells #[.string e.data] 9)) (Below.alloc hb8 z8 _) hg9 (Nat.le_refl _) (Nat.le_trans z8 (by simp)); have HY9 := Lib.hid how9; have HX9 := Lib.hid (OwnL.kept (OwnL.alloc HX8.out (.cells #[.string e.data] 9)) hg9 (by (cases h1 : (Value.slice A8 (F.length + 1) c8).ownBlock with | none => exact .inl rfl | some q => exact .inr fun he => HD8.out q h1 he.symm))); have HD9 : Hid (∀ b, (Value.slice A8 (F.length + 1) c8).ownBlock = some b → v9.ownBlock ≠ some b) := Lib.hid (fun b h1 h2 => hbl9.elim (fun h => HD8.out b h1 (by rw [← h]; exact h2)) (fun h => by have h3 := (World.ownsRow.lt HX8.out b h1).2; rw [h] at h2; have h4 := Option.some.inj h2; simp at h4; omega)); obtain ⟨A9, c9, hv9, _⟩ := OwnL.shape how9; rw [hly] at hv9; subst hv9; clear hg9' hbl9' how9 hg9 hbl9))
            go_roundw
            case rel => exact ⟨j + 1, by omega, by go_num, hb9, by rw [HN.out]; exact HX9, by rw [HN.out, HDS.out]; exact HY9, HD9⟩
            case measure => simp [intOf]; omega
        · obtain rfl : j = l.length := by omega
          -- TAIL
          rw [List.take_length] at *
          have hbk : Below (w.heap.size + 2) ((w.alloc (.cells #[.string .empty, .int .i64 0] 48)).alloc (.cells #[.int .i64 1, .int .i64 4, .int .i64 2] 2)) wr := hb.trans (hbx.mono zr2)
          have hlF := fltS_len st l
          have hDF := fltS_data st l
          by_cases hF : fltS st l = []
          · have hFE : stF st l = [] := by rw [← hDF, hF]; rfl
            have HN := Lib.hid (HEN.out hFE)
            rw [hF] at *
            have dl : decide (([] : List Sec).length = 0) = true := rfl
            clear hlF hDF hF hFE HV HX HY HD
            go_wp2
            go_roundw
            case rel => exact ⟨k + 1, by omega, by go_num, hbk, HN⟩
            case measure => simp [intOf]; omega
          · have hFN : stF st l ≠ [] := by rw [← hDF]; intro e; have := congrArg List.length e; rw [secDs_len] at this; exact hF (List.eq_nil_of_length_eq_zero this)
            have HV2 := Lib.hid (congrArg mgV (HV.out hFN))
            have HMo := Lib.hid (most_i wo.heap.size (fltS st l) _ wr HX.out (by omega) hF)
            rw [hDF] at HMo HY
            have hpos : 0 < (fltS st l).length := List.length_pos_iff.2 hF
            have hSZ := Lib.hid (stF_sizes (st := st) HS.out)
            have hFle := stF_len st l
            simp only [hlF] at HY HMo hpos ⊢
            generalize fltS st l = F at *
            have hpe : ((stF st l).length == 0) = false := by rw [beq_eq_false_iff_ne]; omega
            have hpe2 : (((stF st l).length : Int) == 0) = false := by rw [beq_eq_false_iff_ne]; omega
            clear HV HD HX hF hlF hDF
            rcases hstc with rfl | rfl | rfl
            · have HV3 : Hid (mgV (mgS l) = mgV (mgG l)) := HV2
              unfold mgG at HV3
              generalize hD : mostS (stF 1 l) = D at *
              clear hD HV2 hSZ
              go_wp2_with (fail)
              refine HMo.out.mono ?_; rintro e w4 ⟨rfl, hb4⟩
              have hB4 := (hbw.trans (hbx.mono zr)).trans (hb4.mono (by omega))
              have hR4 := hbk.trans (hb4.mono (by omega))
              have z4 := hb4.size
              generalize hW5 : (w4.alloc (.cells #[.string D, .int .i64 1] 48)) = W5
              have q0 : W5.cell? ⟨w4.heap.size, 0, none⟩ = some (.string D) := by rw [← hW5]; simp [go_sem]
              have q1 : W5.cell? ⟨w4.heap.size, 1, none⟩ = some (.int .i64 1) := by rw [← hW5]; simp [go_sem]
              have qf : ∀ j, W5.frozen? ⟨w4.heap.size, j, none⟩ = false := by intro j; rw [← hW5]; simp [go_sem]
              have hb45 : Below w4.heap.size w4 W5 := by rw [← hW5]; exact Below.alloc (Below.refl _ _) (Nat.le_refl _) _
              have hz5 : w4.heap.size < W5.heap.size := by rw [← hW5]; simp
              have hB5 := hB4.trans (hb45.mono (by omega))
              have hR5 := hR4.trans (hb45.mono (by omega))
              have hR5s : w.heap.size + 2 ≤ W5.heap.size := by omega
              have hg5 : g < W5.heap.size := by omega
              go_wp2
              go_loopw [56, 12, 13] (fun i fr ag wx => ∃ (j x : Nat) (y : Int), j ≤ l.length ∧ i = .int .i64 j ∧ fr = .int .i64 y ∧ ag = .int .i64 x ∧ -1 ≤ y ∧ y ≤ j ∧ x ≤ j ∧ Below W5.heap.size W5 wx ∧ Hid (AgrSt 1 D l j y x)) (fun i _ _ _ => l.length - (intOf i).toNat)
              case atStart => exact ⟨0, 0, -1, by omega, rfl, rfl, rfl, by omega, by omega, by omega, Below.refl _ _, Lib.hid ⟨by simp, by simp, by omega, by omega, by omega⟩⟩
              case round =>
                obtain ⟨j, x, y, hj, rfl, rfl, rfl, hy1, hy2, hx, hby, HA⟩ := hrel
                have zy := hby.size
                have b0 := (hby.cell (p := ⟨w4.heap.size, 0, none⟩) hz5).trans q0
                have b1 := (hby.cell (p := ⟨w4.heap.size, 1, none⟩) hz5).trans q1
                have bf := fun j => (hby.frozen (p := ⟨w4.heap.size, j, none⟩) hz5).trans (qf j)
                by_cases hltj : j < l.length
                · obtain ⟨e, he⟩ : ∃ e, l[j]? = some e := ⟨l[j], List.getElem?_eq_getElem hltj⟩
                  have p0 := (hby.cell (p := ⟨g, j * 2, none⟩) hg5).trans ((hB5.cell (p := ⟨g, j * 2, none⟩) hg).trans (P0.out j e he))
                  have p1 := (hby.cell (p := ⟨g, j * 2 + 1, none⟩) hg5).trans ((hB5.cell (p := ⟨g, j * 2 + 1, none⟩) hg).trans (P1.out j e he))
                  have hne : w4.heap.size ≠ wr.heap.size := by omega
                  have b0' := (World.cell?_alloc_old wr (.cells #[.string e.data, .int .i64 e.state] 48) ⟨w4.heap.size, 0, none⟩ hne).trans b0
                  have hbn : Below W5.heap.size W5 (wr.alloc (.cells #[.string e.data, .int .i64 e.state] 48)) := Below.alloc hby zy _
                  cases hc1 : (e.state == 1)
                  · have HN := Lib.hid (agr_no HA.out he (by rw [hc1]; rfl))
                    clear he
                    go_wp2
                    go_roundw
                    case rel => exact ⟨j + 1, x, y, by omega, by go_num, rfl, rfl, hy1, by omega, by omega, hbn, HN⟩
                    case measure => simp [intOf]; omega
                  · cases hc2 : (e.data.toList == D.toList)
                    · have HN := Lib.hid (agr_no HA.out he (by rw [hc1, hc2]; rfl))
                      clear he
                      go_wp2
                      go_roundw
                      case rel => exact ⟨j + 1, x, y, by omega, by go_num, rfl, rfl, hy1, by omega, by omega, hbn, HN⟩
                      case measure => simp [intOf]; omega
                    · by_cases hyn : y < 0
                      · have HN := Lib.hid (agr_yes1 HA.out he (by rw [hc1, hc2]; rfl) hyn)
                        have dy : decide (y < 0) = true := decide_eq_true hyn
                        clear he
                        go_wp2
                        go_roundw
                        case rel => exact ⟨j + 1, x + 1, j, by omega, by go_num, rfl, by go_num, by omega, by omega, by omega, hbn, HN⟩
                        case measure => simp [intOf]; omega
                      · have HN := Lib.hid (agr_yes2 HA.out he (by rw [hc1, hc2]; rfl) hyn)
                        have dy : decide (y < 0) = false := decide_eq_false hyn
                        clear he
                        go_wp2
                        go_roundw
                        case rel => exact ⟨j + 1, x + 1, y, by omega, by go_num, rfl, by go_num, hy1, by omega, by omega, hbn, HN⟩
                        case measure => simp [intOf]; omega
                · obtain rfl : j = l.length := by omega
                  obtain ⟨hxe, hye⟩ := agr_end HA.out
                  have HXE := Lib.hid hxe
                  have HYE := Lib.hid hye
                  have hBr := hB5.trans (hby.mono hB5.size)
                  have hRr := hR5.trans (hby.mono hR5s)
                  obtain ⟨⟨rr0, rr1, rf⟩, _⟩ := HB.out _ hRr
                  have rf0 := rf 0
                  have rf1 := rf 1
                  clear hxe hye HA HB rf HS
                  have HV4 := HV3.out
                  rw [← HXE.out] at HV4
                  have hGl : (stF 1 l).length ≤ 1048576 := by omega
                  by_cases hx : x < (stF 1 l).length
                  · rw [if_pos hx] at HV4
                    have HV3 := Lib.hid HV4
                    have d2 : decide ((x : Int) < ((stF 1 l).length : Int)) = true := decide_eq_true (by omega)
                    have d3 : decide (x < (stF 1 l).length) = true := decide_eq_true hx
                    have hne2 : w.heap.size ≠ w4.heap.size := by omega
                    clear HV4
                    go_wp2_with (fail)
                    refine (size_sec _ _ _ _ hGl).mono ?_; rintro e w8 ⟨rfl, rfl⟩
                    generalize hW9 : wr.setCell ⟨w4.heap.size, 1, none⟩ (.int .i64 4) = W9
                    have rr0 : W9.cell? ⟨w.heap.size, 0, none⟩ = some (.string .empty) := by rw [← hW9]; exact (World.cell?_setCell_other _ _ _ _ (by intro e; injection e with e _ _; omega)).trans rr0
                    have rr1 : W9.cell? ⟨w.heap.size, 1, none⟩ = some (.int .i64 0) := by rw [← hW9]; exact (World.cell?_setCell_other _ _ _ _ (by intro e; injection e with e _ _; omega)).trans rr1
                    have rg0 : W9.frozen? ⟨w.heap.size, 0, none⟩ = false := by rw [← hW9]; exact (World.frozen?_setCell _ _ _ _).trans rf0
                    have rg1 : W9.frozen? ⟨w.heap.size, 1, none⟩ = false := by rw [← hW9]; exact (World.frozen?_setCell _ _ _ _).trans rf1
                    have c0 : W9.cell? ⟨w4.heap.size, 0, none⟩ = some (.string D) := by rw [← hW9]; exact (World.cell?_setCell_other _ _ _ _ (by intro e; injection e with _ e _; omega)).trans b0
                    have c1 : W9.cell? ⟨w4.heap.size, 1, none⟩ = some (.int .i64 4) := by rw [← hW9]; exact World.cell?_setCell_same _ _ _ b1
                    have hBr : Below w.heap.size w W9 := by rw [← hW9]; exact Below.setCell hBr (p := ⟨w4.heap.size, 1, none⟩) (by show w.heap.size ≤ w4.heap.size; omega) _
                    have bf1 := bf 1
                    have s0 := World.cell?_setCell_other (W9.setCell ⟨w.heap.size, 0, none⟩ (.string D)) ⟨w.heap.size, 1, none⟩ ⟨w.heap.size, 0, none⟩ (.int .i64 4) (by intro e; injection e with _ e _; omega)
                    rw [World.cell?_setCell_same _ _ _ rr0] at s0
                    have s1 := World.cell?_setCell_same (W9.setCell ⟨w.heap.size, 0, none⟩ (.string D)) ⟨w.heap.size, 1, none⟩ (.int .i64 4) ((World.cell?_setCell_other _ _ _ _ (by intro e; injection e with _ e _; omega)).trans rr1)
                    have hBW : Below w.heap.size w ((W9.setCell ⟨w.heap.size, 0, none⟩ (.string D)).setCell ⟨w.heap.size, 1, none⟩ (.int .i64 4)) := Below.setCell (Below.setCell hBr (p := ⟨w.heap.size, 0, none⟩) (Nat.le_refl _) _) (p := ⟨w.heap.size, 1, none⟩) (Nat.le_refl _) _
                    go_wp2
                    rw [HV3.out]
                    exact bodyPost_ret (v := .tuple #[.agg #[.string D, .int .i64 4], .int .i64 y, .int .i64 x]) (by simp [results, Try.results81, go_sem, s0, s1]; try done) rfl ⟨by rw [HXE.out, HYE.out]; rfl, hBW⟩
                  · rw [if_neg hx] at HV4
                    have HV3 := Lib.hid HV4
                    have d2 : decide ((x : Int) < ((stF 1 l).length : Int)) = false := decide_eq_false (by omega)
                    have d3 : decide (x < (stF 1 l).length) = false := decide_eq_false hx
                    clear HV4
                    go_wp2_with (fail)
                    refine (size_sec _ _ _ _ hGl).mono ?_; rintro e w8 ⟨rfl, rfl⟩
                    have s0 := World.cell?_setCell_other (wr.setCell ⟨w.heap.size, 0, none⟩ (.string D)) ⟨w.heap.size, 1, none⟩ ⟨w.heap.size, 0, none⟩ (.int .i64 1) (by intro e; injection e with _ e _; omega)
                    rw [World.cell?_setCell_same _ _ _ rr0] at s0
                    have s1 := World.cell?_setCell_same (wr.setCell ⟨w.heap.size, 0, none⟩ (.string D)) ⟨w.heap.size, 1, none⟩ (.int .i64 1) ((World.cell?_setCell_other _ _ _ _ (by intro e; injection e with _ e _; omega)).trans rr1)
                    have hBW : Below w.heap.size w ((wr.setCell ⟨w.heap.size, 0, none⟩ (.string D)).setCell ⟨w.heap.size, 1, none⟩ (.int .i64 1)) := Below.setCell (Below.setCell hBr (p := ⟨w.heap.size, 0, none⟩) (Nat.le_refl _) _) (p := ⟨w.heap.size, 1, none⟩) (Nat.le_refl _) _
                    go_wp2
                    rw [HV3.out]
                    exact bodyPost_ret (v := .tuple #[.agg #[.string D, .int .i64 1], .int .i64 y, .int .i64 x]) (by simp [results, Try.results81, go_sem, s0, s1]; try done) rfl ⟨by rw [HXE.out, HYE.out]; rfl, hBW⟩
            · have HV3 : Hid (mgV (mgS l) = mgV (mgW l)) := HV2
              unfold mgW at HV3
              generalize hD : mostS (stF 4 l) = D at *
              clear hD HV2 hSZ
              go_wp2_with (fail)
              refine HMo.out.mono ?_; rintro e w4 ⟨rfl, hb4⟩
              have hB4 := (hbw.trans (hbx.mono zr)).trans (hb4.mono (by omega))
              have hR4 := hbk.trans (hb4.mono (by omega))
              have z4 := hb4.size
              generalize hW5 : (w4.alloc (.cells #[.string D, .int .i64 4] 48)) = W5
              have q0 : W5.cell? ⟨w4.heap.size, 0, none⟩ = some (.string D) := by rw [← hW5]; simp [go_sem]
              have q1 : W5.cell? ⟨w4.heap.size, 1, none⟩ = some (.int .i64 4) := by rw [← hW5]; simp [go_sem]
              have qf : ∀ j, W5.frozen? ⟨w4.heap.size, j, none⟩ = false := by intro j; rw [← hW5]; simp [go_sem]
              have hb45 : Below w4.heap.size w4 W5 := by rw [← hW5]; exact Below.alloc (Below.refl _ _) (Nat.le_refl _) _
              have hz5 : w4.heap.size < W5.heap.size := by rw [← hW5]; simp
              have hB5 := hB4.trans (hb45.mono (by omega))
              have hR5 := hR4.trans (hb45.mono (by omega))
              have hR5s : w.heap.size + 2 ≤ W5.heap.size := by omega
              have hg5 : g < W5.heap.size := by omega
              go_wp2
              go_loopw [56, 12, 13] (fun i fr ag wx => ∃ (j x : Nat) (y : Int), j ≤ l.length ∧ i = .int .i64 j ∧ fr = .int .i64 y ∧ ag = .int .i64 x ∧ -1 ≤ y ∧ y ≤ j ∧ x ≤ j ∧ Below W5.heap.size W5 wx ∧ Hid (AgrSt 4 D l j y x)) (fun i _ _ _ => l.length - (intOf i).toNat)
              case atStart => exact ⟨0, 0, -1, by omega, rfl, rfl, rfl, by omega, by omega, by omega, Below.refl _ _, Lib.hid ⟨by simp, by simp, by omega, by omega, by omega⟩⟩
              case round =>
                obtain ⟨j, x, y, hj, rfl, rfl, rfl, hy1, hy2, hx, hby, HA⟩ := hrel
                have zy := hby.size
                have b0 := (hby.cell (p := ⟨w4.heap.size, 0, none⟩) hz5).trans q0
                have b1 := (hby.cell (p := ⟨w4.heap.size, 1, none⟩) hz5).trans q1
                have bf := fun j => (hby.frozen (p := ⟨w4.heap.size, j, none⟩) hz5).trans (qf j)
                by_cases hltj : j < l.length
                · obtain ⟨e, he⟩ : ∃ e, l[j]? = some e := ⟨l[j], List.getElem?_eq_getElem hltj⟩
                  have p0 := (hby.cell (p := ⟨g, j * 2, none⟩) hg5).trans ((hB5.cell (p := ⟨g, j * 2, none⟩) hg).trans (P0.out j e he))
                  have p1 := (hby.cell (p := ⟨g, j * 2 + 1, none⟩) hg5).trans ((hB5.cell (p := ⟨g, j * 2 + 1, none⟩) hg).trans (P1.out j e he))
                  have hne : w4.heap.size ≠ wr.heap.size := by omega
                  have b0' := (World.cell?_alloc_old wr (.cells #[.string e.data, .int .i64 e.state] 48) ⟨w4.heap.size, 0, none⟩ hne).trans b0
                  have hbn : Below W5.heap.size W5 (wr.alloc (.cells #[.string e.data, .int .i64 e.state] 48)) := Below.alloc hby zy _
                  cases hc1 : (e.state == 4)
                  · have HN := Lib.hid (agr_no HA.out he (by rw [hc1]; rfl))
                    clear he
                    go_wp2
                    go_roundw
                    case rel => exact ⟨j + 1, x, y, by omega, by go_num, rfl, rfl, hy1, by omega, by omega, hbn, HN⟩
                    case measure => simp [intOf]; omega
                  · cases hc2 : (e.data.toList == D.toList)
                    · have HN := Lib.hid (agr_no HA.out he (by rw [hc1, hc2]; rfl))
                      clear he
                      go_wp2
                      go_roundw
                      case rel => exact ⟨j + 1, x, y, by omega, by go_num, rfl, rfl, hy1, by omega, by omega, hbn, HN⟩
                      case measure => simp [intOf]; omega
                    · by_cases hyn : y < 0
                      · have HN := Lib.hid (agr_yes1 HA.out he (by rw [hc1, hc2]; rfl) hyn)
                        have dy : decide (y < 0) = true := decide_eq_true hyn
                        clear he
                        go_wp2
                        go_roundw
                        case rel => exact ⟨j + 1, x + 1, j, by omega, by go_num, rfl, by go_num, by omega, by omega, by omega, hbn, HN⟩
                        case measure => simp [intOf]; omega
                      · have HN := Lib.hid (agr_yes2 HA.out he (by rw [hc1, hc2]; rfl) hyn)
                        have dy : decide (y < 0) = false := decide_eq_false hyn
                        clear he
                        go_wp2
                        go_roundw
                        case rel => exact ⟨j + 1, x + 1, y, by omega, by go_num, rfl, by go_num, hy1, by omega, by omega, hbn, HN⟩
                        case measure => simp [intOf]; omega
                · obtain rfl : j = l.length := by omega
                  obtain ⟨hxe, hye⟩ := agr_end HA.out
                  have HXE := Lib.hid hxe
                  have HYE := Lib.hid hye
                  have hBr := hB5.trans (hby.mono hB5.size)
                  have hRr := hR5.trans (hby.mono hR5s)
                  obtain ⟨⟨rr0, rr1, rf⟩, _⟩ := HB.out _ hRr
                  have rf0 := rf 0
                  have rf1 := rf 1
                  clear hxe hye HA HB rf HS
                  have s0 := World.cell?_setCell_other (wr.setCell ⟨w.heap.size, 0, none⟩ (.string D)) ⟨w.heap.size, 1, none⟩ ⟨w.heap.size, 0, none⟩ (.int .i64 4) (by intro e; injection e with _ e _; omega)
                  rw [World.cell?_setCell_same _ _ _ rr0] at s0
                  have s1 := World.cell?_setCell_same (wr.setCell ⟨w.heap.size, 0, none⟩ (.string D)) ⟨w.heap.size, 1, none⟩ (.int .i64 4) ((World.cell?_setCell_other _ _ _ _ (by intro e; injection e with _ e _; omega)).trans rr1)
                  have hBW : Below w.heap.size w ((wr.setCell ⟨w.heap.size, 0, none⟩ (.string D)).setCell ⟨w.heap.size, 1, none⟩ (.int .i64 4)) := Below.setCell (Below.setCell hBr (p := ⟨w.heap.size, 0, none⟩) (Nat.le_refl _) _) (p := ⟨w.heap.size, 1, none⟩) (Nat.le_refl _) _
                  go_wp2
                  rw [HV3.out]
                  exact bodyPost_ret (v := .tuple #[.agg #[.string D, .int .i64 4], .int .i64 y, .int .i64 x]) (by simp [results, Try.results81, go_sem, s0, s1]; try done) rfl ⟨by rw [HXE.out, HYE.out]; rfl, hBW⟩
            · have HV3 : Hid (mgV (mgS l) = mgV (mgB l)) := HV2
              unfold mgB at HV3
              have HVT := Lib.hid (fun W (hW : Below wr.heap.size wr W) => vote_i wo.heap.size (stF 2 l) _ W (OwnL.below HY.out hW) (by omega) hFN n hSZ.out hn2)
              generalize mostS (stF 2 l) = D0 at *
              generalize hD : strN (voteV (stF 2 l)) = D at *
              clear hD HV2 hSZ
              go_wp2_with (fail)
              refine HMo.out.mono ?_; rintro e w4 ⟨rfl, hb4⟩
              have hB4 := (hbw.trans (hbx.mono zr)).trans (hb4.mono (by omega))
              have hR4 := hbk.trans (hb4.mono (by omega))
              have z4 := hb4.size
              generalize hWa : (w4.alloc (.cells #[.string D0, .int .i64 2] 48)) = Wa
              have qa0 : Wa.cell? ⟨w4.heap.size, 0, none⟩ = some (.string D0) := by rw [← hWa]; simp [go_sem]
              have qa1 : Wa.cell? ⟨w4.heap.size, 1, none⟩ = some (.int .i64 2) := by rw [← hWa]; simp [go_sem]
              have qaf : ∀ j, Wa.frozen? ⟨w4.heap.size, j, none⟩ = false := by intro j; rw [← hWa]; simp [go_sem]
              have hb4a : Below w4.heap.size w4 Wa := by rw [← hWa]; exact Below.alloc (Below.refl _ _) (Nat.le_refl _) _
              have hza : w4.heap.size < Wa.heap.size := by rw [← hWa]; simp
              have hVA := HVT.out Wa (hb4.trans (hb4a.mono z4))
              have HVA := Lib.hid hVA
              clear hVA HVT HY
              go_wp2_with (fail)
              refine HVA.out.mono ?_; rintro e w6 ⟨rfl, hb6⟩
              have qb0 := (hb6.cell (p := ⟨w4.heap.size, 0, none⟩) hza).trans qa0
              have qb1 := (hb6.cell (p := ⟨w4.heap.size, 1, none⟩) hza).trans qa1
              have qbf := fun j => (hb6.frozen (p := ⟨w4.heap.size, j, none⟩) hza).trans (qaf j)
              have qbf0 := qbf 0
              have z6 := hb6.size
              have hb46 := hb4a.trans (hb6.mono (Nat.le_of_lt hza))
              generalize hW5 : w6.setCell ⟨w4.heap.size, 0, none⟩ (.string D) = W5
              have q0 : W5.cell? ⟨w4.heap.size, 0, none⟩ = some (.string D) := by rw [← hW5]; exact World.cell?_setCell_same _ _ _ qb0
              have q1 : W5.cell? ⟨w4.heap.size, 1, none⟩ = some (.int .i64 2) := by rw [← hW5]; exact (World.cell?_setCell_other _ _ _ _ (by intro e; injection e with _ e _; omega)).trans qb1
              have qf : ∀ j, W5.frozen? ⟨w4.heap.size, j, none⟩ = false := by intro j; rw [← hW5]; exact (World.frozen?_setCell _ _ _ _).trans (qbf j)
              have hb45 : Below w4.heap.size w4 W5 := by rw [← hW5]; exact Below.setCell hb46 (p := ⟨w4.heap.size, 0, none⟩) (Nat.le_refl _) _
              have hz5 : w4.heap.size < W5.heap.size := by rw [← hW5]; simp; omega
              have hB5 := hB4.trans (hb45.mono (by omega))
              have hR5 := hR4.trans (hb45.mono (by omega))
              have hR5s : w.heap.size + 2 ≤ W5.heap.size := by omega
              have hg5 : g < W5.heap.size := by omega
              clear qa0 qa1 qaf hb4a hza HVA hb6 qbf z6 hb46 hWa
              go_wp2
              go_loopw [56, 12, 13] (fun i fr ag wx => ∃ (j x : Nat) (y : Int), j ≤ l.length ∧ i = .int .i64 j ∧ fr = .int .i64 y ∧ ag = .int .i64 x ∧ -1 ≤ y ∧ y ≤ j ∧ x ≤ j ∧ Below W5.heap.size W5 wx ∧ Hid (AgrSt 2 D l j y x)) (fun i _ _ _ => l.length - (intOf i).toNat)
              case atStart => exact ⟨0, 0, -1, by omega, rfl, rfl, rfl, by omega, by omega, by omega, Below.refl _ _, Lib.hid ⟨by simp, by simp, by omega, by omega, by omega⟩⟩
              case round =>
                obtain ⟨j, x, y, hj, rfl, rfl, rfl, hy1, hy2, hx, hby, HA⟩ := hrel
                have zy := hby.size
                have b0 := (hby.cell (p := ⟨w4.heap.size, 0, none⟩) hz5).trans q0
                have b1 := (hby.cell (p := ⟨w4.heap.size, 1, none⟩) hz5).trans q1
                have bf := fun j => (hby.frozen (p := ⟨w4.heap.size, j, none⟩) hz5).trans (qf j)
                by_cases hltj : j < l.length
                · obtain ⟨e, he⟩ : ∃ e, l[j]? = some e := ⟨l[j], List.getElem?_eq_getElem hltj⟩
                  have p0 := (hby.cell (p := ⟨g, j * 2, none⟩) hg5).trans ((hB5.cell (p := ⟨g, j * 2, none⟩) hg).trans (P0.out j e he))
                  have p1 := (hby.cell (p := ⟨g, j * 2 + 1, none⟩) hg5).trans ((hB5.cell (p := ⟨g, j * 2 + 1, none⟩) hg).trans (P1.out j e he))
                  have hne : w4.heap.size ≠ wr.heap.size := by omega
                  have b0' := (World.cell?_alloc_old wr (.cells #[.string e.data, .int .i64 e.state] 48) ⟨w4.heap.size, 0, none⟩ hne).trans b0
                  have hbn : Below W5.heap.size W5 (wr.alloc (.cells #[.string e.data, .int .i64 e.state] 48)) := Below.alloc hby zy _
                  cases hc1 : (e.state == 2)
                  · have HN := Lib.hid (agr_no HA.out he (by rw [hc1]; rfl))
                    clear he
                    go_wp2
                    go_roundw
                    case rel => exact ⟨j + 1, x, y, by omega, by go_num, rfl, rfl, hy1, by omega, by omega, hbn, HN⟩
                    case measure => simp [intOf]; omega
                  · cases hc2 : (e.data.toList == D.toList)
                    · have HN := Lib.hid (agr_no HA.out he (by rw [hc1, hc2]; rfl))
                      clear he
                      go_wp2
                      go_roundw
                      case rel => exact ⟨j + 1, x, y, by omega, by go_num, rfl, rfl, hy1, by omega, by omega, hbn, HN⟩
                      case measure => simp [intOf]; omega
                    · by_cases hyn : y < 0
                      · have HN := Lib.hid (agr_yes1 HA.out he (by rw [hc1, hc2]; rfl) hyn)
                        have dy : decide (y < 0) = true := decide_eq_true hyn
                        clear he
                        go_wp2
                        go_roundw
                        case rel => exact ⟨j + 1, x + 1, j, by omega, by go_num, rfl, by go_num, by omega, by omega, by omega, hbn, HN⟩
                        case measure => simp [intOf]; omega
                      · have HN := Lib.hid (agr_yes2 HA.out he (by rw [hc1, hc2]; rfl) hyn)
                        have dy : decide (y < 0) = false := decide_eq_false hyn
                        clear he
                        go_wp2
                        go_roundw
                        case rel => exact ⟨j + 1, x + 1, y, by omega, by go_num, rfl, by go_num, hy1, by omega, by omega, hbn, HN⟩
                        case measure => simp [intOf]; omega
                · obtain rfl : j = l.length := by omega
                  obtain ⟨hxe, hye⟩ := agr_end HA.out
                  have HXE := Lib.hid hxe
                  have HYE := Lib.hid hye
                  have hBr := hB5.trans (hby.mono hB5.size)
                  have hRr := hR5.trans (hby.mono hR5s)
                  obtain ⟨⟨rr0, rr1, rf⟩, _⟩ := HB.out _ hRr
                  have rf0 := rf 0
                  have rf1 := rf 1
                  clear hxe hye HA HB rf HS
                  have s0 := World.cell?_setCell_other (wr.setCell ⟨w.heap.size, 0, none⟩ (.string D)) ⟨w.heap.size, 1, none⟩ ⟨w.heap.size, 0, none⟩ (.int .i64 2) (by intro e; injection e with _ e _; omega)
                  rw [World.cell?_setCell_same _ _ _ rr0] at s0
                  have s1 := World.cell?_setCell_same (wr.setCell ⟨w.heap.size, 0, none⟩ (.string D)) ⟨w.heap.size, 1, none⟩ (.int .i64 2) ((World.cell?_setCell_other _ _ _ _ (by intro e; injection e with _ e _; omega)).trans rr1)
                  have hBW : Below w.heap.size w ((wr.setCell ⟨w.heap.size, 0, none⟩ (.string D)).setCell ⟨w.heap.size, 1, none⟩ (.int .i64 2)) := Below.setCell (Below.setCell hBr (p := ⟨w.heap.size, 0, none⟩) (Nat.le_refl _) _) (p := ⟨w.heap.size, 1, none⟩) (Nat.le_refl _) _
                  go_wp2
                  rw [HV3.out]
                  exact bodyPost_ret (v := .tuple #[.agg #[.string D, .int .i64 2], .int .i64 y, .int .i64 x]) (by simp [results, Try.results81, go_sem, s0, s1]; try done) rfl ⟨by rw [HXE.out, HYE.out]; rfl, hBW⟩
    · obtain rfl : k = 3 := by omega
      have HV := Lib.hid (congrArg mgV (mgS_m (HE.out 0 (by omega)) (HE.out 1 (by omega)) (HE.out 2 (by omega))))
      unfold mgM at HV
      obtain ⟨e0, he0⟩ : ∃ e, l[0]? = some e := ⟨l[0], List.getElem?_eq_getElem hl0⟩
      have hsz : e0.data.size = n := HS.out e0 (List.mem_of_getElem? he0)
      rw [List.getD_eq_getElem?_getD, he0, Option.getD_some] at HV
      subst hsz
      have p0 := (hbw.cell (p := ⟨g, 0, none⟩) hg).trans (by have := P0.out 0 e0 he0; simpa using this)
      have HZ := Lib.hid (fun W => zeros_i e0.data.size W (by omega))
      generalize strN (List.replicate e0.data.size 0) = D at *
      clear he0 HE
      go_wp2_with (fail)
      refine (HZ.out _).mono ?_; rintro e w4 ⟨rfl, hb4⟩
      have hBr := hbw.trans (hb4.mono zr)
      have hRr := hb.trans (hb4.mono zr2)
      obtain ⟨⟨rr0, rr1, rf⟩, _⟩ := HB.out _ hRr
      have rf0 := rf 0
      have rf1 := rf 1
      clear HB rf HS
      have s0 := World.cell?_setCell_other (w4.setCell ⟨w.heap.size, 0, none⟩ (.string D)) ⟨w.heap.size, 1, none⟩ ⟨w.heap.size, 0, none⟩ (.int .i64 3) (by intro e; injection e with _ e _; omega)
      rw [World.cell?_setCell_same _ _ _ rr0] at s0
      have s1 := World.cell?_setCell_same (w4.setCell ⟨w.heap.size, 0, none⟩ (.string D)) ⟨w.heap.size, 1, none⟩ (.int .i64 3) ((World.cell?_setCell_other _ _ _ _ (by intro e; injection e with _ e _; omega)).trans rr1)
      have hBW : Below w.heap.size w ((w4.setCell ⟨w.heap.size, 0, none⟩ (.string D)).setCell ⟨w.heap.size, 1, none⟩ (.int .i64 3)) := Below.setCell (Below.setCell hBr (p := ⟨w.heap.size, 0, none⟩) (Nat.le_refl _) _) (p := ⟨w.heap.size, 1, none⟩) (Nat.le_refl _) _
      go_wp2
      rw [HV.out]
      exact bodyPost_ret (v := .tuple #[.agg #[.string D, .int .i64 3], .int .i64 (-1), .int .i64 0]) (by simp [results, Try.results81, go_sem, s0, s1]; try done) rfl ⟨rfl, hBW⟩
end Go.Proofs.Ytignjjkldmninaa
