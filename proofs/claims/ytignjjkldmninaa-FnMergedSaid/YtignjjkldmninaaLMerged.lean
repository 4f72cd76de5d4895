/- FnMerged: the walk. -/
import Derived.Test.YtignjjkldmninaaVDiscS
import Derived.Test.YtignjjkldmninaaDrwT
import Derived.Test.YtignjjkldmninaaMdI
import Derived.Test.YtignjjkldmninaaLackingOf
import Derived.Test.YtignjjkldmninaaConflictsOf
/- Merged dumps whose good sectors are right: the plain law of FnMerged. -/
namespace Go.Proofs.Ytignjjkldmninaa
set_option linter.unusedVariables false
open Go.RowKit
theorem ch_mem {P : List ByteArray → Bool} {l : List Dsc} {x : Int} : ∀ {n k : Nat}, x ∈ chF P l k n ↔ ∃ i : Nat, k ≤ i ∧ i < k + n ∧ x = (i : Int) ∧ P (goodF i l) = true := by
  intro n
  induction n with
  | zero => intro k; simp [chF]; intros; omega
  | succ n ih =>
    intro k
    unfold chF
    by_cases h : P (goodF k l) = true
    · rw [if_pos h, List.mem_cons, ih]
      constructor
      · rintro (rfl | ⟨i, h1, h2, h3, h4⟩)
        · exact ⟨k, by omega, by omega, rfl, h⟩
        · exact ⟨i, by omega, by omega, h3, h4⟩
      · rintro ⟨i, h1, h2, rfl, h4⟩
        by_cases e : i = k
        · left; rw [e]
        · right; exact ⟨i, by omega, by omega, rfl, h4⟩
    · rw [if_neg h, ih]
      constructor
      · rintro ⟨i, h1, h2, h3, h4⟩; exact ⟨i, by omega, by omega, h3, h4⟩
      · rintro ⟨i, h1, h2, rfl, h4⟩
        by_cases e : i = k
        · rw [e] at h4; exact absurd h4 h
        · exact ⟨i, by omega, by omega, rfl, h4⟩
section
variable {T : Dsc} {l : List Dsc} {z : Dsc}
theorem tr_col (h : TruthK T l) {k : Nat} {t : Sec} (ht : T.secs[k]? = some t) : ∀ s ∈ colF k l, s.state = 1 → s = t := fun s hs h1 => by
  obtain ⟨d, hd, rfl⟩ := List.mem_map.1 hs
  have hk : k < d.secs.length := by rw [h.len d hd]; exact (List.getElem?_eq_some_iff.1 ht).1
  have he : d.secs[k]? = some (d.secs.getD k secZ) := by rw [List.getD_eq_getElem?_getD, List.getElem?_eq_getElem hk]; rfl
  exact h.good d hd k _ t he ht h1
theorem tr_good (h : TruthK T l) {k : Nat} {t : Sec} (ht : T.secs[k]? = some t) : ∀ b ∈ goodF k l, b = t.data := fun b hb => by
  obtain ⟨s, hs, h1, rfl⟩ := stF_in.1 hb
  rw [tr_col h ht s hs h1]
theorem tr_conf (h : TruthK T l) (hz : l[0]? = some z) : conflictsE l = ([], 0) := by
  have hhd : l.headD default = z := by
    cases l with
    | nil => cases hz
    | cons a r => simpa using hz
  unfold conflictsE chE
  rw [if_pos h.ok, hhd]
  congr 1
  apply List.eq_nil_iff_forall_not_mem.2
  intro x hx
  obtain ⟨i, _, h2, rfl, h4⟩ := ch_mem.1 hx
  rw [Nat.zero_add, h.len z (List.mem_of_getElem? hz)] at h2
  obtain ⟨t, ht⟩ : ∃ t, T.secs[i]? = some t := ⟨T.secs[i]'h2, List.getElem?_eq_getElem _⟩
  have hg := tr_good h ht
  unfold confB kindF at h4
  cases hG : goodF i l with
  | nil => rw [hG] at h4; simp at h4
  | cons a r =>
    rw [hG] at h4 hg
    have ha := hg a (by simp)
    simp only [List.headD_cons, Bool.not_not] at h4
    rw [List.any_eq_true] at h4
    obtain ⟨s, hs, h5⟩ := h4
    rw [hg s hs, ha] at h5
    simp at h5
theorem tr_lack (h : TruthK T l) (hz : l[0]? = some z) : ∃ L, lackingE l = (L, 0) ∧ L.length ≤ 1048576 ∧ ∀ k : Nat, k < z.secs.length → ((k : Int) ∈ L ↔ stF 1 (colF k l) = []) := by
  have hhd : l.headD default = z := by
    cases l with
    | nil => cases hz
    | cons a r => simpa using hz
  have hN := ok_le (du_mem h.ok hz (List.mem_of_getElem? hz)).1
  refine ⟨chF lackB l 0 z.secs.length, ?_, ?_, fun k hk => ?_⟩
  · unfold lackingE chE; rw [if_pos h.ok, hhd]
  · have := ch_len lackB l 0 z.secs.length; omega
  · rw [ch_mem]
    constructor
    · rintro ⟨i, _, _, e, h4⟩
      have : i = k := by omega
      subst this
      unfold lackB goodF at h4
      simpa using h4
    · intro e
      refine ⟨k, by omega, by omega, rfl, ?_⟩
      unfold lackB goodF; rw [e]; rfl
theorem tr_disc (h : dumpsOk l = true) (hz : l[0]? = some z) : discOk (mdM l z).d = true := by
  have h1 := (du_mem h hz (List.mem_of_getElem? hz)).1
  have h2 := h1
  unfold discOk at h2 ⊢
  simp only [Bool.and_eq_true, List.all_eq_true, beq_iff_eq] at h2 ⊢
  refine ⟨h2.1, ?_, fun s hs => ?_⟩
  · show ((mdS l z.secs.length).length : Int) = _
    rw [mdS_len]; exact h2.2.1
  · obtain ⟨k, hk⟩ := List.mem_iff_getElem?.1 hs
    have hk : (mdS l z.secs.length)[k]? = some s := hk
    have hkN : k < z.secs.length := by have := (List.getElem?_eq_some_iff.1 hk).1; rwa [mdS_len] at this
    rw [mdS_get hkN] at hk
    injection hk with hk
    subst hk
    refine mgS_ok (fun s hs => ?_) (by intro e; have := congrArg List.length e; rw [col_len] at this; have h5 := (List.getElem?_eq_some_iff.1 hz).1; simp at this; rw [this] at h5; simp at h5)
    obtain ⟨d, hd, rfl⟩ := List.mem_map.1 hs
    obtain ⟨h3, h4⟩ := du_mem h hz hd
    have hk' : k < d.secs.length := by rw [du_secs h hz hd]; exact hkN
    have h5 : d.size = z.size := by unfold sameG at h4; simp at h4; exact h4.2
    unfold discOk at h3
    simp only [Bool.and_eq_true, List.all_eq_true] at h3
    have := h3.2.2 (d.secs.getD k secZ) (by rw [List.getD_eq_getElem?_getD, List.getElem?_eq_getElem hk']; exact List.getElem_mem _)
    rwa [h5] at this
end
end Go.Proofs.Ytignjjkldmninaa
namespace Go.Proofs.Ytignjjkldmninaa
open Go.RowKit
theorem stF_snoc (l : List Sec) (s : Sec) : stF 1 (l ++ [s]) = stF 1 l ++ (if (s.state == 1) = true then [s.data] else []) := by
  induction l with
  | nil => simp only [List.nil_append, stF]
  | cons a r ih =>
    simp only [List.cons_append, stF, ih]
    by_cases h : (a.state == 1) = true
    · rw [if_pos h, if_pos h]; rfl
    · rw [if_neg h, if_neg h]
def cntT (k : Nat) (l : List Dsc) (m : Nat) : Nat := (stF 1 (colF k (l.take m))).length
theorem cntT_succ {k m : Nat} {l : List Dsc} {d : Dsc} {s : Sec} (hd : l[m]? = some d) (hs : d.secs[k]? = some s) : cntT k l (m + 1) = cntT k l m + (if (s.state == 1) = true then 1 else 0) := by
  have e : l.take (m + 1) = l.take m ++ [d] := by rw [List.take_add_one, hd]; rfl
  have e2 : d.secs.getD k secZ = s := by rw [List.getD_eq_getElem?_getD, hs]; rfl
  unfold cntT colF
  rw [e, List.map_append]
  simp only [List.map_cons, List.map_nil, e2]
  rw [stF_snoc, List.length_append]
  by_cases h : (s.state == 1) = true
  · rw [if_pos h, if_pos h]; rfl
  · rw [if_neg h, if_neg h]; rfl
theorem cntT_le (k : Nat) (l : List Dsc) (m : Nat) : cntT k l m ≤ m := by
  unfold cntT
  have := stF_len 1 (colF k (l.take m))
  rw [col_len, List.length_take] at this
  omega
/-- what a place of the merged disc is -/
def MgdAt (T z : Dsc) (l : List Dsc) (L : List Int) (k : Nat) (t s : Sec) : Prop :=
  T.secs[k]? = some t ∧ (mdS l z.secs.length)[k]? = some s ∧ ((cntT k l l.length = 0 ∧ (k : Int) ∈ L ∧ (s.state == 1) = false) ∨ (0 < cntT k l l.length ∧ (k : Int) ∉ L ∧ s = t ∧ t.state = 1 ∧ (mdA l z.secs.length)[k]? = some ((cntT k l l.length : Nat) : Int) ∧ ∃ (j : Nat) (d : Dsc), (mdF l z.secs.length)[k]? = some (j : Int) ∧ l[j]? = some d ∧ d.secs[k]? = some t))
theorem mgd_known {T z : Dsc} {l : List Dsc} {L : List Int} (h : TruthK T l) (hz : l[0]? = some z) (hL : ∀ k : Nat, k < z.secs.length → ((k : Int) ∈ L ↔ stF 1 (colF k l) = [])) {k : Nat} (hk : k < z.secs.length) : ∃ t s, MgdAt T z l L k t s := by
  have hTN : T.secs.length = z.secs.length := (h.len z (List.mem_of_getElem? hz)).symm
  have ht : T.secs[k]? = some (T.secs[k]'(by omega)) := List.getElem?_eq_getElem _
  have hC : cntT k l l.length = (stF 1 (colF k l)).length := by unfold cntT; rw [List.take_length]
  refine ⟨_, _, ht, mdS_get hk, ?_⟩
  by_cases h0 : stF 1 (colF k l) = []
  · refine .inl ⟨by rw [hC, h0]; rfl, (hL k hk).2 h0, ?_⟩
    have := mgS_zero h0
    simpa using this
  · have hst := h.st _ (List.mem_of_getElem? ht)
    obtain ⟨e1, e2, j, e3, e4⟩ := mgS_right hst (tr_col h ht) h0
    refine .inr ⟨by rw [hC]; exact List.length_pos_iff.2 h0, fun e => h0 ((hL k hk).1 e), e1, hst, by rw [mdA_get hk, e2, hC], j, ?_⟩
    unfold colF at e4
    rw [List.getElem?_map] at e4
    cases hj : l[j]? with
    | none => rw [hj] at e4; cases e4
    | some d =>
      rw [hj] at e4
      have hd := h.len d (List.mem_of_getElem? hj)
      have hkd : k < d.secs.length := by omega
      refine ⟨d, by rw [mdF_get hk, e3], rfl, ?_⟩
      injection e4 with e4
      change d.secs.getD k secZ = _ at e4
      rw [List.getD_eq_getElem?_getD, List.getElem?_eq_getElem hkd] at e4
      rw [List.getElem?_eq_getElem hkd]
      exact congrArg some e4
theorem not_take {x y : Int} {L : List Int} {k : Nat} (h : x ∉ L.take k) (hy : L[k]? = some y) (hne : y ≠ x) : x ∉ L.take (k + 1) := by
  rw [List.take_add_one, hy]
  intro h2
  rcases List.mem_append.1 h2 with h2 | h2
  · exact h h2
  · have : x = y := by simpa using h2
    exact hne this.symm
set_option maxHeartbeats 1000000 in
theorem has_l (B : Nat) (L : List Int) (v : Value) (x : Int) (w : World) (h : Int64L B w v L) (hn : L.length ≤ 1048576) :
    Calls Try.prog 63 #[v, .int .i64 x] w fun e w' => e = .returned (.bool (decide (x ∈ L))) ∧ w = w' := by
  have hc : Hid (∀ k y, L[k]? = some y → ∃ gs, v.ownBlock = some gs ∧ w.cell? ⟨gs, k, none⟩ = some (.int .i64 y)) := Lib.hid (fun k y hk => by
    obtain ⟨A, c, e, hA⟩ := OwnL.shape h
    obtain ⟨gs, e2, _, _⟩ := hA.resolve_left (by intro e3; rw [e3] at hk; simp at hk)
    subst e e2
    have h1 := OwnL.cell icell_len h hk (j := 0) rfl
    rw [Nat.mul_one, Nat.add_zero] at h1
    exact ⟨gs, rfl, h1⟩)
  obtain ⟨A, c, rfl, hA⟩ := OwnL.shape h
  go_enter Try.func63, Try.ntmps63
  go_wp2
  go_loopw [5] (fun i wr => ∃ k : Nat, k ≤ L.length ∧ i = .int .i64 k ∧ wr = w ∧ Hid (x ∉ L.take k)) (fun i _ => L.length - (intOf i).toNat)
  case atStart => exact ⟨0, by omega, rfl, rfl, Lib.hid (by simp)⟩
  case round =>
    obtain ⟨k, hk, rfl, hw, hx⟩ := hrel
    subst hw
    by_cases hlt : k < L.length
    · obtain ⟨y, hy⟩ : ∃ y, L[k]? = some y := ⟨L[k], List.getElem?_eq_getElem hlt⟩
      obtain ⟨gs, rfl, _, _⟩ := hA.resolve_left (by intro e; rw [e] at hlt; simp at hlt)
      obtain ⟨g2, e2, q0⟩ := hc.out k y hy
      simp only [Value.ownBlock, Option.some.injEq] at e2
      subst e2
      by_cases he : y = x
      · have HM : Hid (x ∈ L) := Lib.hid (he ▸ List.mem_of_getElem? hy)
        have d1 : (y == x) = true := by simpa using he
        clear hy he
        go_wp2
        go_ret
        exact ⟨by rw [decide_eq_true HM.out]; rfl, rfl⟩
      · have d1 : (y == x) = false := by simpa using he
        have HX := Lib.hid (not_take hx.out hy he)
        clear hy he
        go_wp2
        go_roundw
        case rel => exact ⟨k + 1, by omega, by go_num, trivial, HX⟩
        case measure => simp [intOf]; omega
    · obtain rfl : k = L.length := by omega
      have hno : x ∉ L := by have := hx.out; rwa [List.take_length] at this
      have HNO := Lib.hid hno
      clear hno
      go_wp2
      go_ret
      exact ⟨by rw [decide_eq_false HNO.out]; rfl, rfl⟩
set_option maxRecDepth 20000 in
set_option maxHeartbeats 8000000 in
theorem walkFnMerged (A : Option Addr) (n c : Nat) (w : World) (h : BytesIn w A n) (hm : n ≤ maxLen) :
    Calls Try.prog 15 #[.slice A n c] w fun e w' => e = .returned (.bool true) ∧ Below w.heap.size w w' := by
  by_cases hlong : 1048576 < n
  · have d1 : decide ((1048576 : Int) < (n : Int)) = true := by rw [decide_eq_true_eq]; omega
    go_enter Try.func15, Try.ntmps15
    go_wp2
    go_ret
    exact ⟨rfl, Below.refl _ _⟩
  · have d1 : decide ((1048576 : Int) < (n : Int)) = false := by rw [decide_eq_false_iff_not]; omega
    have hn : n ≤ 1048576 := by omega
    go_enter Try.func15, Try.ntmps15
    go_wp2_with (fail)
    refine (e8truth_s A n c _ h hn).mono ?_; rintro e w1 ⟨T, vt, v, l, rfl, oT, hO, hTK, hb1⟩
    have hok := hTK.ok
    obtain ⟨z, hz⟩ := du_first hok
    have h5 := du_len hok
    have hl1 : 1 ≤ l.length := List.length_pos_iff.2 (by rintro rfl; cases hz)
    have hN : z.secs.length ≤ 128 := ok_le (du_mem hok hz (List.mem_of_getElem? hz)).1
    have hTN : T.secs.length = z.secs.length := (hTK.len z (List.mem_of_getElem? hz)).symm
    have hD : ∀ d ∈ l, d.secs.length = z.secs.length := fun d hd => du_secs hok hz hd
    have hsz : ∀ d ∈ l, d.secs.length ≤ 1048576 := fun d hd => by rw [hD d hd]; omega
    have hmx : ∀ d ∈ l, ∀ s ∈ d.secs, s.data.size ≤ maxLen := fun d hd s hs => by
      have h1 := (du_mem hok hz hd).1
      unfold discOk at h1
      simp only [Bool.and_eq_true, List.all_eq_true] at h1
      have h2 := secOk_size (h1.2.2 s hs)
      have h3 := szN_le (geo_parts h1.1).2.2.2
      unfold maxLen; omega
    have HMD : Hid (∀ W, Below w1.heap.size w1 W → Calls Try.prog 54 #[v] W fun e w' => ∃ A c A1 c1 A2 c2, e = .returned (.tuple #[.agg #[.int .i64 z.cyl, .int .i64 z.heads, .int .i64 z.per, .int .i64 z.size, .slice A z.secs.length c, .slice A1 z.secs.length c1, .slice A2 z.secs.length c2], .int .i64 0]) ∧ SecOwn W.heap.size w' (.slice A z.secs.length c) (mdS l z.secs.length) ∧ Int64L W.heap.size w' (.slice A1 z.secs.length c1) (mdF l z.secs.length) ∧ Int64L W.heap.size w' (.slice A2 z.secs.length c2) (mdA l z.secs.length) ∧ Below W.heap.size W w') := Lib.hid (fun W hW => by
      have h0 := md_i _ l v W (hO.below hW) (by omega) hsz hmx
      rw [mdE_yes hok hz] at h0
      refine h0.mono ?_
      rintro e w' ⟨A, c, A1, c1, A2, c2, rfl, ho, _, hb⟩
      have e1 : (mdM l z).d.secs.length = z.secs.length := mdS_len _ _
      have e2 : (mdM l z).fr.length = z.secs.length := mdF_len _ _
      have e3 : (mdM l z).ag.length = z.secs.length := mdA_len _ _
      have o1 := ho.d
      have o2 := ho.fr
      have o3 := ho.ag
      simp only [e1, e2, e3] at o1 o2 o3 ⊢
      exact ⟨A, c, A1, c1, A2, c2, rfl, o1, o2, o3, hb⟩)
    have HCO : Hid (∀ W, Below w1.heap.size w1 W → Calls Try.prog 50 #[v] W fun e w' => ∃ A c, e = .returned (.tuple #[.slice A 0 c, .int .i64 0]) ∧ Below W.heap.size W w') := Lib.hid (fun W hW => by
      have h0 := conflicts_i _ l v W (hO.below hW) (by omega) hsz hmx
      rw [tr_conf hTK hz] at h0
      refine h0.mono ?_
      rintro e w' ⟨v1, rfl, o1, hb⟩
      obtain ⟨A1, c1, rfl, _⟩ := OwnL.shape o1.1
      exact ⟨A1, c1, rfl, hb⟩)
    obtain ⟨L, hLe, hLn, hLk⟩ := tr_lack hTK hz
    have HLA : Hid (∀ W, Below w1.heap.size w1 W → Calls Try.prog 42 #[v] W fun e w' => ∃ A c, e = .returned (.tuple #[.slice A L.length c, .int .i64 0]) ∧ Int64L W.heap.size w' (.slice A L.length c) L ∧ Below W.heap.size W w') := Lib.hid (fun W hW => by
      have h0 := lacking_i _ l v W (hO.below hW) (by omega) hsz hmx
      rw [hLe] at h0
      refine h0.mono ?_
      rintro e w' ⟨v1, rfl, o1, hb⟩
      obtain ⟨A1, c1, rfl, _⟩ := OwnL.shape o1.1
      exact ⟨A1, c1, rfl, o1.1, hb⟩)
    have HVD : Hid (∀ Am cm B W, SecOwn B W (.slice Am z.secs.length cm) (mdS l z.secs.length) → Calls Try.prog 62 #[.agg #[.int .i64 z.cyl, .int .i64 z.heads, .int .i64 z.per, .int .i64 z.size, .slice Am z.secs.length cm]] W fun e w' => e = .returned (.bool true) ∧ Below W.heap.size W w') := Lib.hid (fun Am cm B W o => by
      have hd := tr_disc hok hz
      have h0 := disc_s B (mdM l z).d (.slice Am z.secs.length cm) W o (by show (mdS l z.secs.length).length ≤ _; rw [mdS_len]; omega) (fun s hs => by
        have h1 := hd
        unfold discOk at h1
        simp only [Bool.and_eq_true, List.all_eq_true] at h1
        have h2 := secOk_size (h1.2.2 s hs)
        have h3 := szN_le (geo_parts h1.1).2.2.2
        unfold maxLen; omega)
      rw [hd] at h0; exact h0)
    have HKN : Hid (∀ k, k < z.secs.length → ∃ t s, MgdAt T z l L k t s) := Lib.hid (fun k hk => mgd_known hTK hz hLk hk)
    have HDN := Lib.hid hD
    have HTL := Lib.hid hTN
    obtain ⟨Ad, cd, rfl, hA⟩ := hO
    obtain ⟨g, rfl, hgl, hg, hc⟩ := hA.resolve_left (by rintro rfl; simp at hl1)
    obtain ⟨At, ct, hvt, _⟩ := OwnL.shape oT
    rw [hTN] at hvt
    subst hvt
    have HOT := Lib.hid oT
    have HC := Lib.hid hc
    have HBT : Below w1.heap.size w1 (w1.alloc (.cells #[.int .i64 T.cyl, .int .i64 T.heads, .int .i64 T.per, .int .i64 T.size, .slice At z.secs.length ct] 39)) := Below.alloc (Below.refl _ _) (Nat.le_refl _) _
    have HRT : Hid (Row (w1.alloc (.cells #[.int .i64 T.cyl, .int .i64 T.heads, .int .i64 T.per, .int .i64 T.size, .slice At z.secs.length ct] 39)) w1.heap.size [.int .i64 T.cyl, .int .i64 T.heads, .int .i64 T.per, .int .i64 T.size, .slice At z.secs.length ct]) := Lib.hid (Row.alloc w1 _ _)
    have hzT : w1.heap.size < ((w1.alloc (.cells #[.int .i64 T.cyl, .int .i64 T.heads, .int .i64 T.per, .int .i64 T.size, .slice At z.secs.length ct] 39))).heap.size := by simp
    have z1 := hb1.size
    clear hA hc oT hTN hD hsz hmx hok hz hTK hLk hLe h
    go_wp2_with (fail)
    refine (HMD.out _ HBT).mono ?_; rintro e w2 ⟨Am, cm, A1, c1, A2, c2, rfl, om, oF, oA, hb2⟩
    have hbx2 : Below w1.heap.size w1 w2 := HBT.trans (hb2.mono HBT.size)
    have HBM : Below w2.heap.size w2 (w2.alloc (.cells #[.int .i64 z.cyl, .int .i64 z.heads, .int .i64 z.per, .int .i64 z.size, .slice Am z.secs.length cm, .slice A1 z.secs.length c1, .slice A2 z.secs.length c2] 41)) := Below.alloc (Below.refl _ _) (Nat.le_refl _) _
    have HRM : Hid (Row (w2.alloc (.cells #[.int .i64 z.cyl, .int .i64 z.heads, .int .i64 z.per, .int .i64 z.size, .slice Am z.secs.length cm, .slice A1 z.secs.length c1, .slice A2 z.secs.length c2] 41)) w2.heap.size [.int .i64 z.cyl, .int .i64 z.heads, .int .i64 z.per, .int .i64 z.size, .slice Am z.secs.length cm, .slice A1 z.secs.length c1, .slice A2 z.secs.length c2]) := Lib.hid (Row.alloc w2 _ _)
    have hzM : w2.heap.size < ((w2.alloc (.cells #[.int .i64 z.cyl, .int .i64 z.heads, .int .i64 z.per, .int .i64 z.size, .slice Am z.secs.length cm, .slice A1 z.secs.length c1, .slice A2 z.secs.length c2] 41))).heap.size := by simp
    have hbxM : Below w1.heap.size w1 (w2.alloc (.cells #[.int .i64 z.cyl, .int .i64 z.heads, .int .i64 z.per, .int .i64 z.size, .slice Am z.secs.length cm, .slice A1 z.secs.length c1, .slice A2 z.secs.length c2] 41)) := hbx2.alloc hbx2.size _
    have HRT2 := Lib.hid ((HRT.out.below hb2 hzT).below HBM (Nat.lt_of_lt_of_le hzT hb2.size))
    have hzT2 : w1.heap.size < ((w2.alloc (.cells #[.int .i64 z.cyl, .int .i64 z.heads, .int .i64 z.per, .int .i64 z.size, .slice Am z.secs.length cm, .slice A1 z.secs.length c1, .slice A2 z.secs.length c2] 41))).heap.size := Nat.lt_trans (Nat.lt_of_lt_of_le hzT hb2.size) hzM
    have HS2 := Lib.hid (OwnL.below om HBM)
    have HF2 := Lib.hid (OwnL.below oF HBM)
    have HA2 := Lib.hid (OwnL.below oA HBM)
    clear om oF oA hb2 hzT HRT HBT HMD HBM
    go_wp2_with (fail)
    generalize (w2.alloc (.cells #[.int .i64 z.cyl, .int .i64 z.heads, .int .i64 z.per, .int .i64 z.size, .slice Am z.secs.length cm, .slice A1 z.secs.length c1, .slice A2 z.secs.length c2] 41)) = wm at *
    generalize w2.heap.size = b5 at *
    refine (HCO.out _ hbxM).mono ?_; rintro e w3 ⟨Ac, cc, rfl, hb3⟩
    have hbx3 := hbxM.trans (hb3.mono hbxM.size)
    go_wp2_with (fail)
    refine (HLA.out _ hbx3).mono ?_; rintro e w4 ⟨AL, cL, rfl, oL, hb4⟩
    have hbm4 : Below wm.heap.size wm w4 := hb3.trans (hb4.mono hb3.size)
    obtain ⟨m0, m1, m2, m3, m4, m5, m6⟩ : w4.cell? ⟨b5, 0, none⟩ = some (.int .i64 z.cyl) ∧ w4.cell? ⟨b5, 1, none⟩ = some (.int .i64 z.heads) ∧ w4.cell? ⟨b5, 2, none⟩ = some (.int .i64 z.per) ∧ w4.cell? ⟨b5, 3, none⟩ = some (.int .i64 z.size) ∧ w4.cell? ⟨b5, 4, none⟩ = some (.slice Am z.secs.length cm) ∧ w4.cell? ⟨b5, 5, none⟩ = some (.slice A1 z.secs.length c1) ∧ w4.cell? ⟨b5, 6, none⟩ = some (.slice A2 z.secs.length c2) := by
      have hR := HRM.out.below hbm4 hzM
      exact ⟨hR 0 _ rfl, hR 1 _ rfl, hR 2 _ rfl, hR 3 _ rfl, hR 4 _ rfl, hR 5 _ rfl, hR 6 _ rfl⟩
    have HV := Lib.hid (HVD.out Am cm _ w4 (OwnL.below HS2.out hbm4))
    clear HCO HLA HVD hb3 hb4
    go_wp2_with (fail)
    refine HV.out.mono ?_; rintro e w5 ⟨rfl, hb5⟩
    clear m0 m1 m2 m3 m4 m5 m6 HV
    have hbm5 : Below wm.heap.size wm w5 := hbm4.trans (hb5.mono hbm4.size)
    have hb15 := hbxM.trans (hbm5.mono hbxM.size)
    have hbw5 := hb1.trans (hb15.mono z1)
    have HRM5 := Lib.hid (HRM.out.below hbm5 hzM)
    have HRT5 := Lib.hid (HRT2.out.below hbm5 hzT2)
    have HS5 := Lib.hid (OwnL.below HS2.out hbm5)
    have HF5 := Lib.hid (OwnL.below HF2.out hbm5)
    have HA5 := Lib.hid (OwnL.below HA2.out hbm5)
    have HT5 := Lib.hid (OwnL.below HOT.out hb15)
    have HL5 := Lib.hid (OwnL.below oL hb5)
    have hzM5 : b5 < w5.heap.size := Nat.lt_of_lt_of_le hzM hbm5.size
    have hzT5 : w1.heap.size < w5.heap.size := Nat.lt_of_lt_of_le hzT2 hbm5.size
    have m4 := HRM5.out 4 _ rfl
    have m5 := HRM5.out 5 _ rfl
    have m6 := HRM5.out 6 _ rfl
    have t4 := HRT5.out 4 _ rfl
    have HCD : Hid (∀ W, Below w5.heap.size w5 W → ∀ j d, l[j]? = some d → ∃ Ax cx, W.cell? ⟨g, j * 5 + 4, none⟩ = some (.slice Ax z.secs.length cx) ∧ ∀ k s, d.secs[k]? = some s → ∃ gx, Ax = some ⟨gx, 0, none⟩ ∧ W.cell? ⟨gx, k * 2, none⟩ = some (.string s.data) ∧ W.cell? ⟨gx, k * 2 + 1, none⟩ = some (.int .i64 s.state)) := Lib.hid (fun W hW j d hd => by
      have hbW := hb15.trans (hW.mono hb15.size)
      obtain ⟨bv, o1, c1⟩ := HC.out j d hd
      obtain ⟨Ax, cx, rfl, hAx⟩ := OwnL.shape o1
      have c4 := (hbW.cell (p := ⟨g, j * 5 + 4, none⟩) hg).trans (c1 4 _ rfl)
      rw [HDN.out d (List.mem_of_getElem? hd)] at c4
      refine ⟨Ax, cx, c4, fun k s hs => ?_⟩
      obtain ⟨gx, rfl, _, _⟩ := hAx.resolve_left (by intro e; rw [e] at hs; simp at hs)
      have os := OwnL.below o1 hbW
      exact ⟨gx, rfl, OwnL.at1 (j := 0) Sec.len os hs rfl, OwnL.at1 (j := 1) Sec.len os hs rfl⟩)
    clear oL hbm4 hb5 HRM HRT2 HS2 HF2 HA2 HOT hbx3 hbx2 hzM hzT2
    go_wp2_with (fail)
    generalize w1.heap.size = b3 at *
    go_loopw [11] (fun i wr => ∃ k : Nat, k ≤ z.secs.length ∧ i = .int .i64 k ∧ Below w5.heap.size w5 wr) (fun i _ => z.secs.length - (intOf i).toNat)
    case atStart => exact ⟨0, by omega, rfl, Below.refl _ _⟩
    case round =>
      clear m4 m5 m6 t4
      obtain ⟨k, hk, rfl, hb⟩ := hrel
      have t4 := HRT5.out.below hb hzT5 4 _ rfl
      by_cases hlt : k < z.secs.length
      · obtain ⟨t, s, ht, hs, hcs⟩ := HKN.out k hlt
        have m4 := HRM5.out.below hb hzM5 4 _ rfl
        have m5 := HRM5.out.below hb hzM5 5 _ rfl
        have m6 := HRM5.out.below hb hzM5 6 _ rfl
        have os := OwnL.below HS5.out hb
        have ot := OwnL.below HT5.out hb
        obtain ⟨gm, rfl⟩ : ∃ gm, Am = some ⟨gm, 0, none⟩ := by
          obtain ⟨A0, c0, h0, h1⟩ := OwnL.shape os
          injection h0 with h0 _ _
          obtain ⟨g0, h4, _⟩ := h1.resolve_left (by intro he; rw [he] at hs; simp at hs)
          exact ⟨g0, h0.trans h4⟩
        obtain ⟨gt, rfl⟩ : ∃ gt, At = some ⟨gt, 0, none⟩ := by
          obtain ⟨A0, c0, h0, h1⟩ := OwnL.shape ot
          injection h0 with h0 _ _
          obtain ⟨g0, h4, _⟩ := h1.resolve_left (by intro he; rw [he] at ht; simp at ht)
          exact ⟨g0, h0.trans h4⟩
        have s0 := OwnL.at1 (j := 0) Sec.len os hs rfl
        have s1 := OwnL.at1 (j := 1) Sec.len os hs rfl
        have u0 := OwnL.at1 (j := 0) Sec.len ot ht rfl
        have u1 := OwnL.at1 (j := 1) Sec.len ot ht rfl
        simp only [Nat.add_zero] at s0 u0
        have HCS := Lib.hid hcs
        have HDW := Lib.hid (HCD.out wr hb)
        clear ht hs os ot hcs
        go_wp2_with (fail)
        generalize hwo : wr = wo at *
        clear hwo
        go_loopw [13, 12] (fun i x wr => ∃ m : Nat, m ≤ l.length ∧ i = .int .i64 m ∧ x = .int .i64 ((cntT k l m : Nat) : Int) ∧ wr = wo) (fun i _ _ => l.length - (intOf i).toNat)
        case atStart => exact ⟨0, by omega, rfl, rfl, rfl⟩
        case round =>
          obtain ⟨m, hm', rfl, rfl, hw⟩ := hrel
          subst hw
          have hcl := cntT_le k l m
          by_cases hlt2 : m < l.length
          · obtain ⟨d, hd⟩ : ∃ d, l[m]? = some d := ⟨l[m], List.getElem?_eq_getElem hlt2⟩
            have hkd : k < d.secs.length := by rw [HDN.out d (List.mem_of_getElem? hd)]; exact hlt
            have hx := List.getElem?_eq_getElem hkd
            generalize d.secs[k] = x at hx
            obtain ⟨Ax, cx, c4, hcx⟩ := HDW.out m d hd
            obtain ⟨gx, rfl, x0, x1⟩ := hcx k x hx
            have HS := Lib.hid (cntT_succ hd hx)
            clear hcx hd hkd hx
            by_cases hst : x.state = 1
            · have HS2 : Hid (cntT k l (m + 1) = cntT k l m + 1) := Lib.hid (by rw [HS.out, if_pos (by simpa using hst)])
              rw [hst] at x1
              clear HS hst
              go_wp2_with (fail)
              go_roundw
              case rel => exact ⟨m + 1, by omega, by go_num, by rw [HS2.out]; go_num, trivial⟩
              case measure => simp [intOf]; omega
            · have HS2 : Hid (cntT k l (m + 1) = cntT k l m) := Lib.hid (by rw [HS.out, if_neg (by simpa using hst)]; rfl)
              have hst2 : (x.state == 1) = false := by simpa using hst
              clear HS hst
              go_wp2_with (fail)
              go_roundw
              case rel => exact ⟨m + 1, by omega, by go_num, by rw [HS2.out], trivial⟩
              case measure => simp [intOf]; omega
          · obtain rfl : m = l.length := by omega
            have HX : Hid (∀ W, Below wr.heap.size wr W → Calls Try.prog 63 #[.slice AL L.length cL, .int .i64 (k : Int)] W fun e w' => e = .returned (.bool (decide ((k : Int) ∈ L))) ∧ W = w') := Lib.hid (fun W hW => has_l _ L _ _ W (OwnL.below HL5.out (hb.trans (hW.mono hb.size))) hLn)
            rcases HCS.out with ⟨hC0, hin, hst⟩ | ⟨hC1, hin, rfl, hst, hag, j, d, hfr, hj, hdk⟩
            · generalize hCe : cntT k l l.length = C at *
              subst hC0
              have HW9 : Below wr.heap.size wr (wr.alloc (.cells #[.string s.data, .int .i64 s.state] 48)) := Below.alloc (Below.refl _ _) (Nat.le_refl _) _
              have HX2 := HX.out _ HW9
              rw [decide_eq_true hin] at HX2
              have x1 : ((wr.alloc (.cells #[.string s.data, .int .i64 s.state] 48))).cell? ⟨wr.heap.size, 1, none⟩ = some (.int .i64 s.state) := by simp
              clear hin HX HCS
              go_wp2_with (fail)
              refine HX2.mono ?_; rintro e w8 ⟨rfl, rfl⟩
              go_wp2_with (fail)
              refine wp_region_wb (by kernel_rfl) (by kernel_rfl) ?_
              repeat (go_big_quiet_step (fail))
              refine wpQuiet_nil ?_; intro w9 hw'; obtain ⟨⟨wq, hb9⟩, hw''⟩ := hw'; subst hw''
              have hb9' := hb.trans ((HW9.trans (hb9.mono HW9.size)).mono hb.size)
              clear x1
              go_wp2
              go_roundw
              case rel => exact ⟨k + 1, by omega, by go_num, hb9'⟩
              case measure => simp [intOf]; omega
            · generalize hCe : cntT k l l.length = C at *
              have hjl := (List.getElem?_eq_some_iff.1 hj).1
              have hlz : l.length ≤ 5 := h5
              rw [hst] at u1 s1
              have HW9 : Below wr.heap.size wr (wr.alloc (.cells #[.string s.data, .int .i64 1] 48)) := Below.alloc (Below.refl _ _) (Nat.le_refl _) _
              have HX2 := HX.out _ HW9
              rw [decide_eq_false hin] at HX2
              have x0 : ((wr.alloc (.cells #[.string s.data, .int .i64 1] 48))).cell? ⟨wr.heap.size, 0, none⟩ = some (.string s.data) := by simp
              have x1 : ((wr.alloc (.cells #[.string s.data, .int .i64 1] 48))).cell? ⟨wr.heap.size, 1, none⟩ = some (.int .i64 1) := by simp
              have dC0 : (((C : Nat) : Int) == 0) = false := by rw [beq_eq_false_iff_ne]; omega
              have dC0' : (C == 0) = false := by rw [beq_eq_false_iff_ne]; omega
              have dC1 : decide ((0 : Int) < ((C : Nat) : Int)) = true := by rw [decide_eq_true_eq]; omega
              have dC1' : decide (0 < C) = true := by rw [decide_eq_true_eq]; omega
              obtain ⟨Ax, cx, c4, hcx⟩ := HDW.out j d hj
              obtain ⟨gx, rfl, v0, v1⟩ := hcx k s hdk
              have oF := OwnL.below HF5.out hb
              have oA := OwnL.below HA5.out hb
              obtain ⟨gf, rfl⟩ : ∃ gf, A1 = some ⟨gf, 0, none⟩ := by
                obtain ⟨A0, c0, h0, h1⟩ := OwnL.shape oF
                injection h0 with h0 _ _
                obtain ⟨g0, h4, _⟩ := h1.resolve_left (by intro he; rw [he] at hfr; simp at hfr)
                exact ⟨g0, h0.trans h4⟩
              obtain ⟨ga, rfl⟩ : ∃ ga, A2 = some ⟨ga, 0, none⟩ := by
                obtain ⟨A0, c0, h0, h1⟩ := OwnL.shape oA
                injection h0 with h0 _ _
                obtain ⟨g0, h4, _⟩ := h1.resolve_left (by intro he; rw [he] at hag; simp at hag)
                exact ⟨g0, h0.trans h4⟩
              have f0 := OwnL.at1 (j := 0) icell_len oF hfr rfl
              have a0 := OwnL.at1 (j := 0) icell_len oA hag rfl
              simp only [Nat.mul_one, Nat.add_zero] at f0 a0
              have djn : decide ((j : Int) < 0) = false := by rw [decide_eq_false_iff_not]; omega
              have djl : decide ((l.length : Int) ≤ (j : Int)) = false := by rw [decide_eq_false_iff_not]; omega
              have djl' : decide (l.length ≤ j) = false := by rw [decide_eq_false_iff_not]; omega
              rw [hst] at v1
              clear hst
              have bd := fun (gg o : Nat) (u : Value) (hu : wr.cell? ⟨gg, o, none⟩ = some u) => (HW9.cell (p := ⟨gg, o, none⟩) (World.block_lt_of_cell? wr _ hu)).trans hu
              have y1 := bd _ _ _ t4
              have y2 := bd _ _ _ u0
              have y3 := bd _ _ _ u1
              have y4 := bd _ _ _ m5
              have y5 := bd _ _ _ m6
              have y6 := bd _ _ _ f0
              have y7 := bd _ _ _ a0
              have y8 := bd _ _ _ c4
              have y9 := bd _ _ _ v0
              have y10 := bd _ _ _ v1
              have hbW9 : Below w5.heap.size w5 (wr.alloc (.cells #[.string s.data, .int .i64 1] 48)) := hb.trans (HW9.mono hb.size)
              have HQ := Lib.hid (And.intro y1 (And.intro y2 (And.intro y3 (And.intro y4 (And.intro y5 (And.intro y6 (And.intro y7 (And.intro y8 (And.intro y9 y10)))))))))
              clear hin HX HCS hag hfr hj hdk hcx oF oA bd y1 y2 y3 y4 y5 y6 y7 y8 y9 y10 hC1
              go_upto_region 19 with (fail)
              generalize (wr.alloc (.cells #[.string s.data, .int .i64 1] 48)) = wx at *
              generalize wr.heap.size = bx at *
              go_wp2_with (fail)
              refine HX2.mono ?_; rintro e w8 ⟨rfl, rfl⟩
              go_wp2_with (fail)
              obtain ⟨y1, y2, y3, y4, y5, y6, y7, y8, y9, y10⟩ := HQ.out
              have w1' : ∀ x : Wb wx, x.1.cell? ⟨b3, 4, none⟩ = some (.slice (some ⟨gt, 0, none⟩) z.secs.length ct) := fun x => Wb.cell y1 x
              have w2' : ∀ x : Wb wx, x.1.cell? ⟨gt, k * 2, none⟩ = some (.string s.data) := fun x => Wb.cell y2 x
              have w3' : ∀ x : Wb wx, x.1.cell? ⟨gt, k * 2 + 1, none⟩ = some (.int .i64 1) := fun x => Wb.cell y3 x
              have w4' : ∀ x : Wb wx, x.1.cell? ⟨b5, 5, none⟩ = some (.slice (some ⟨gf, 0, none⟩) z.secs.length c1) := fun x => Wb.cell y4 x
              have w5' : ∀ x : Wb wx, x.1.cell? ⟨b5, 6, none⟩ = some (.slice (some ⟨ga, 0, none⟩) z.secs.length c2) := fun x => Wb.cell y5 x
              have w6' : ∀ x : Wb wx, x.1.cell? ⟨gf, k, none⟩ = some (.int .i64 (j : Int)) := fun x => Wb.cell y6 x
              have w7' : ∀ x : Wb wx, x.1.cell? ⟨ga, k, none⟩ = some (.int .i64 (C : Int)) := fun x => Wb.cell y7 x
              have w8' : ∀ x : Wb wx, x.1.cell? ⟨g, j * 5 + 4, none⟩ = some (.slice (some ⟨gx, 0, none⟩) z.secs.length cx) := fun x => Wb.cell y8 x
              have w9' : ∀ x : Wb wx, x.1.cell? ⟨gx, k * 2, none⟩ = some (.string s.data) := fun x => Wb.cell y9 x
              have w10' : ∀ x : Wb wx, x.1.cell? ⟨gx, k * 2 + 1, none⟩ = some (.int .i64 1) := fun x => Wb.cell y10 x
              have w11' : ∀ x : Wb wx, x.1.cell? ⟨bx, 0, none⟩ = some (.string s.data) := fun x => Wb.cell x0 x
              have w12' : ∀ x : Wb wx, x.1.cell? ⟨bx, 1, none⟩ = some (.int .i64 1) := fun x => Wb.cell x1 x
              clear y1 y2 y3 y4 y5 y6 y7 y8 y9 y10 HQ x0 x1
              refine wp_region_wb (by kernel_rfl) (by kernel_rfl) ?_
              repeat (go_big_quiet_step (fail))
              refine wpQuiet_nil ?_; intro w9 hw'; obtain ⟨⟨wq, hb9⟩, hw''⟩ := hw'; subst hw''
              clear w1' w2' w3' w4' w5' w6' w7' w8' w9' w10' w11' w12'
              have hb9' := hbW9.trans (hb9.mono hbW9.size)
              go_wp2
              go_roundw
              case rel => exact ⟨k + 1, by omega, by go_num, hb9'⟩
              case measure => simp [intOf]; omega
      · obtain rfl : k = z.secs.length := by omega
        go_wp2
        go_ret
        exact ⟨rfl, hbw5.trans (hb.mono hbw5.size)⟩
end Go.Proofs.Ytignjjkldmninaa
