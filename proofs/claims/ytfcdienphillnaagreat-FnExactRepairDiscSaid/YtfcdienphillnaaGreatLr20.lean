/- l23Size and l23Left of the reference: the walks; the size by both sides. l23Size and l23Left of the reference: the walks. RestoreOne, impl and spec: the law and the walks. RestoreOne of the reference: the walks. -/
import Derived.Test.YtfcdienphillnaaGreatLr18
import Derived.Test.YtfcdienphillnaaGreatLr19
import Derived.Test.YtfcdienphillnaaGreatLr11
import Derived.StillTailTactics
namespace Go.Proofs.YtfcdienphillnaaGreat
set_option linter.unusedVariables false
set_option linter.unusedSimpArgs false
open Go.RowKit
def sz1 : Nat → List ByteArray → Option Nat
  | c, [] => some c
  | c, s :: r => if c = 0 then sz1 s.size r else if (!s.toList.isEmpty && decide (s.size ≠ c)) = true then none else sz1 c r
def sz2 (L : List Int) : Nat → Nat → List ByteArray → Option Nat
  | c, _, [] => some c
  | c, k, b :: r => if hasB L k = true then sz2 L c (k + 1) r else if b.size = (if c = 0 then b.size else c) ∧ (if c = 0 then b.size else c) ≠ 0 then sz2 L (if c = 0 then b.size else c) (k + 1) r else none
def szS (bl : List ByteArray) (L : List Int) (mo : List ByteArray) : Nat := match sz1 0 mo with
  | none => 0
  | some c => match sz2 L c 0 bl with
    | none => 0
    | some d => if 64 < d ∨ 128 < bl.length ∨ bl.length = 0 then 0 else d
theorem emp_iff {s : ByteArray} : s.toList.isEmpty = true ↔ s.size = 0 := by
  constructor
  · intro h
    by_cases h0 : s.size = 0
    · exact h0
    · rw [emp_noP h0] at h; cases h
  · exact emp_yesP
/-- a number that all of these strings have as their size -/
def allSP (u : Nat) (l : List ByteArray) : Prop := ∀ s ∈ l, s.size = u
theorem sz1_some {c v : Nat} {mo : List ByteArray} (h : sz1 c mo = some v) : allSP v (neF mo) ∧ (c ≠ 0 → v = c) ∧ (c = 0 → neF mo = [] → v = 0) ∧ (neF mo ≠ [] → v ≠ 0) := by
  induction mo generalizing c with
  | nil =>
    obtain rfl : c = v := by simpa [sz1] using h
    exact ⟨fun s hs => by simp [neF] at hs, fun _ => rfl, fun h _ => h, fun h => by simp [neF] at h⟩
  | cons s r ih =>
    unfold sz1 at h
    rw [ne_c]
    by_cases hc : c = 0
    · rw [if_pos hc] at h
      obtain ⟨h1, h2, h3, h4⟩ := ih h
      by_cases hs : s.size = 0
      · rw [if_pos (emp_yesP hs)]
        exact ⟨h1, fun h' => absurd hc h', fun _ => h3 hs, h4⟩
      · rw [if_neg (by rw [emp_noP hs]; decide)]
        have hv := h2 hs
        refine ⟨fun t ht => ?_, fun h' => absurd hc h', fun _ h' => by simp at h', fun _ => by omega⟩
        cases List.mem_cons.1 ht with
        | inl h' => subst h'; exact hv.symm
        | inr h' => exact h1 t h'
    · rw [if_neg hc] at h
      by_cases hs : s.size = 0
      · rw [if_neg (by rw [emp_yesP hs]; simp)] at h
        rw [if_pos (emp_yesP hs)]
        obtain ⟨h1, h2, h3, h4⟩ := ih h
        exact ⟨h1, fun _ => h2 hc, fun h' => absurd h' hc, h4⟩
      · by_cases hsc : s.size = c
        · rw [if_neg (by simp [hsc])] at h
          rw [if_neg (by rw [emp_noP hs]; decide)]
          obtain ⟨h1, h2, h3, h4⟩ := ih h
          have hv := h2 hc
          refine ⟨fun t ht => ?_, fun _ => hv, fun h' => absurd h' hc, fun _ => by omega⟩
          cases List.mem_cons.1 ht with
          | inl h' => subst h'; omega
          | inr h' => exact h1 t h'
        · rw [if_pos (by rw [emp_noP hs]; simp [hsc])] at h
          cases h
theorem sz1_none {c u : Nat} {mo : List ByteArray} (hc : c ≠ 0 → u = c) (ha : allSP u (neF mo)) (h : sz1 c mo = none) : False := by
  induction mo generalizing c with
  | nil => simp [sz1] at h
  | cons s r ih =>
    unfold sz1 at h
    rw [ne_c] at ha
    by_cases h0 : c = 0
    · rw [if_pos h0] at h
      by_cases hs : s.size = 0
      · rw [if_pos (emp_yesP hs)] at ha
        exact ih (fun h' => absurd hs h') ha h
      · rw [if_neg (by rw [emp_noP hs]; decide)] at ha
        exact ih (fun _ => (ha s List.mem_cons_self).symm) (fun t ht => ha t (List.mem_cons_of_mem _ ht)) h
    · rw [if_neg h0] at h
      by_cases hs : s.size = 0
      · rw [if_neg (by rw [emp_yesP hs]; simp)] at h
        rw [if_pos (emp_yesP hs)] at ha
        exact ih hc ha h
      · rw [if_neg (by rw [emp_noP hs]; decide)] at ha
        have h1 := ha s List.mem_cons_self
        have h2 := hc h0
        rw [if_neg (by simp; intro _; omega)] at h
        exact ih hc (fun t ht => ha t (List.mem_cons_of_mem _ ht)) h
theorem sz2_some {L : List Int} {c k v : Nat} {l : List ByteArray} (h : sz2 L c k l = some v) : allSP v (knF L k l) ∧ (c ≠ 0 → v = c) ∧ (c = 0 → knF L k l = [] → v = 0) ∧ (knF L k l ≠ [] → v ≠ 0) := by
  induction l generalizing c k with
  | nil =>
    obtain rfl : c = v := by simpa [sz2] using h
    exact ⟨fun s hs => by simp [knF] at hs, fun _ => rfl, fun h _ => h, fun h => by simp [knF] at h⟩
  | cons b r ih =>
    unfold sz2 at h
    unfold knF
    by_cases hb : hasB L k = true
    · rw [if_pos hb] at h ⊢
      exact ih h
    · rw [if_neg hb] at h ⊢
      by_cases hc : b.size = (if c = 0 then b.size else c) ∧ (if c = 0 then b.size else c) ≠ 0
      · rw [if_pos hc] at h
        obtain ⟨h1, h2, h3, h4⟩ := ih h
        have hv := h2 hc.2
        refine ⟨fun t ht => ?_, fun h' => by rw [hv, if_neg h'], fun _ h' => by simp at h', fun _ => by rw [hv]; exact hc.2⟩
        cases List.mem_cons.1 ht with
        | inl h' => subst h'; exact hc.1.trans hv.symm
        | inr h' => exact h1 t h'
      · rw [if_neg hc] at h; cases h
theorem sz2_none {L : List Int} {c k u : Nat} {l : List ByteArray} (hu : u ≠ 0) (hc : c ≠ 0 → u = c) (ha : allSP u (knF L k l)) (h : sz2 L c k l = none) : False := by
  induction l generalizing c k with
  | nil => simp [sz2] at h
  | cons b r ih =>
    unfold sz2 at h
    unfold knF at ha
    by_cases hb : hasB L k = true
    · rw [if_pos hb] at h ha
      exact ih hc ha h
    · rw [if_neg hb] at h ha
      have h1 := ha b List.mem_cons_self
      have h3 : (if c = 0 then b.size else c) = u := by
        split
        · exact h1
        · exact (hc (by assumption)).symm
      rw [h3, if_pos ⟨h1, hu⟩] at h
      exact ih (fun _ => rfl) (fun t ht => ha t (List.mem_cons_of_mem _ ht)) h
theorem szK_pos {n v : Nat} {K : List ByteArray} (hv : v ≠ 0) : szK n K = v ↔ K ≠ [] ∧ allSP v K ∧ v ≤ 64 ∧ n ≤ 128 := by
  cases K with
  | nil => exact ⟨fun h => absurd (show 0 = v from h).symm hv, fun h => absurd rfl h.1⟩
  | cons a r =>
    have hu : szK n (a :: r) = if (decide (n ≤ 128) && inB a.size 1 64 && sizesAre a.size (a :: r)) = true then a.size else 0 := rfl
    rw [hu]
    constructor
    · intro h
      by_cases hc : (decide (n ≤ 128) && inB a.size 1 64 && sizesAre a.size (a :: r)) = true
      · rw [if_pos hc] at h
        rw [Bool.and_eq_true, Bool.and_eq_true] at hc
        have h1 := of_decide_eq_true hc.1.1
        have h2 := inB_yes hc.1.2
        have h3 := List.all_eq_true.1 hc.2
        exact ⟨by simp, fun s hs => (of_decide_eq_true (h3 s hs)).trans h, by omega, h1⟩
      · rw [if_neg hc] at h; exact absurd h.symm hv
    · rintro ⟨_, h2, h3, h4⟩
      have ha := h2 a List.mem_cons_self
      rw [if_pos]
      · exact ha
      · rw [Bool.and_eq_true, Bool.and_eq_true]
        exact ⟨⟨decide_eq_true h4, inB_t (by omega)⟩, List.all_eq_true.2 fun s hs => decide_eq_true ((h2 s hs).trans ha.symm)⟩
theorem szS_K (bl : List ByteArray) (L : List Int) (mo : List ByteArray) : szS bl L mo = if bl.length = 0 then 0 else szK bl.length (ktF bl L mo) := by
  by_cases h0 : bl.length = 0
  · rw [if_pos h0]
    unfold szS
    split
    · rfl
    · split
      · rfl
      · rw [if_pos (by omega)]
  · rw [if_neg h0]
    by_cases hk : szK bl.length (ktF bl L mo) = 0
    · rw [hk]
      -- the reference's cannot be other than 0
      unfold szS
      split
      · rfl
      · rename_i c h1
        split
        · rfl
        · rename_i d h2
          by_cases hd : 64 < d ∨ 128 < bl.length ∨ bl.length = 0
          · rw [if_pos hd]
          · rw [if_neg hd]
            by_cases hd0 : d = 0
            · exact hd0
            · exfalso
              obtain ⟨a1, a2, a3, a4⟩ := sz1_some h1
              obtain ⟨b1, b2, b3, b4⟩ := sz2_some h2
              have hK : szK bl.length (ktF bl L mo) = d := (szK_pos hd0).2 ⟨by
                intro he
                obtain ⟨e1, e2⟩ := List.append_eq_nil_iff.1 he
                have hc0 := a3 rfl e2
                exact hd0 (b3 hc0 e1), fun s hs => by
                cases List.mem_append.1 hs with
                | inl h => exact b1 s h
                | inr h =>
                  have hc0 : c ≠ 0 := a4 (List.ne_nil_of_mem h)
                  rw [b2 hc0]; exact a1 s h, by omega, by omega⟩
              exact hd0 (hK.symm.trans hk)
    · generalize hv : szK bl.length (ktF bl L mo) = v at *
      obtain ⟨h1, h2, h3, h4⟩ := (szK_pos hk).1 hv
      have hkn : allSP v (knF L 0 bl) := fun s hs => h2 s (List.mem_append_left _ hs)
      have hmo : allSP v (neF mo) := fun s hs => h2 s (List.mem_append_right _ hs)
      unfold szS
      split
      · rename_i e1; exact (sz1_none (u := v) (fun h => absurd rfl h) hmo e1).elim
      · rename_i c e1
        obtain ⟨a1, a2, a3, a4⟩ := sz1_some e1
        have hcv : c ≠ 0 → v = c := fun hc => by
          by_cases hm : neF mo = []
          · exact absurd (a3 rfl hm) hc
          · obtain ⟨s, hs⟩ := List.exists_mem_of_ne_nil _ hm
            exact (hmo s hs).symm.trans (a1 s hs)
        split
        · rename_i e2; exact (sz2_none hk hcv hkn e2).elim
        · rename_i d e2
          obtain ⟨b1, b2, b3, b4⟩ := sz2_some e2
          have hd : d = v := by
            by_cases hc : c = 0
            · by_cases hkk : knF L 0 bl = []
              · have hm : neF mo ≠ [] := fun e => h1 (List.append_eq_nil_iff.2 ⟨hkk, e⟩)
                exact absurd hc (a4 hm)
              · obtain ⟨s, hs⟩ := List.exists_mem_of_ne_nil _ hkk
                exact (b1 s hs).symm.trans (hkn s hs)
            · exact (b2 hc).trans (hcv hc).symm
          rw [hd, if_neg (by omega)]
end Go.Proofs.YtfcdienphillnaaGreat
namespace Go.Proofs.YtfcdienphillnaaGreat
set_option linter.unusedVariables false
set_option linter.unusedSimpArgs false
open Go.RowKit
theorem s1_zero {k : Nat} {mo : List ByteArray} {s : ByteArray} {X : Option Nat} (hs : mo[k]? = some s) (H : Hid (X = sz1 0 (mo.drop k))) : Hid (X = sz1 s.size (mo.drop (k + 1))) := by
  obtain ⟨hk, rfl⟩ := List.getElem?_eq_some_iff.1 hs
  exact Lib.hid (by rw [H.out, List.drop_eq_getElem_cons hk, sz1, if_pos rfl])
theorem s1_go {k c : Nat} {mo : List ByteArray} {s : ByteArray} {X : Option Nat} (hs : mo[k]? = some s) (H : Hid (X = sz1 c (mo.drop k))) (hc : c ≠ 0) (h : (!s.toList.isEmpty && decide (s.size ≠ c)) = false) : Hid (X = sz1 c (mo.drop (k + 1))) := by
  obtain ⟨hk, rfl⟩ := List.getElem?_eq_some_iff.1 hs
  exact Lib.hid (by rw [H.out, List.drop_eq_getElem_cons hk, sz1, if_neg hc, if_neg (by rw [h]; decide)])
theorem s1_no {k c : Nat} {mo : List ByteArray} {s : ByteArray} {X : Option Nat} (hs : mo[k]? = some s) (H : Hid (X = sz1 c (mo.drop k))) (hc : c ≠ 0) (h : (!s.toList.isEmpty && decide (s.size ≠ c)) = true) : X = none := by
  obtain ⟨hk, rfl⟩ := List.getElem?_eq_some_iff.1 hs
  rw [H.out, List.drop_eq_getElem_cons hk, sz1, if_neg hc, if_pos h]
theorem s1_end {k c : Nat} {mo : List ByteArray} {X : Option Nat} (hk : mo.length ≤ k) (H : Hid (X = sz1 c (mo.drop k))) : X = some c := by
  rw [H.out, List.drop_of_length_le hk, sz1]
theorem s2_has {L : List Int} {c k : Nat} {l : List ByteArray} {b : ByteArray} {X : Option Nat} (hs : l[k]? = some b) (H : Hid (X = sz2 L c k (l.drop k))) (h : hasB L k = true) : Hid (X = sz2 L c (k + 1) (l.drop (k + 1))) := by
  obtain ⟨hk, rfl⟩ := List.getElem?_eq_some_iff.1 hs
  exact Lib.hid (by rw [H.out, List.drop_eq_getElem_cons hk, sz2, if_pos h])
theorem s2_go {L : List Int} {c d k : Nat} {l : List ByteArray} {b : ByteArray} {X : Option Nat} (hs : l[k]? = some b) (H : Hid (X = sz2 L c k (l.drop k))) (h : hasB L k = false) (hd : d = if c = 0 then b.size else c) (h1 : b.size = d) (h2 : d ≠ 0) : Hid (X = sz2 L d (k + 1) (l.drop (k + 1))) := by
  obtain ⟨hk, rfl⟩ := List.getElem?_eq_some_iff.1 hs
  exact Lib.hid (by rw [H.out, List.drop_eq_getElem_cons hk, sz2, if_neg (by rw [h]; decide), ← hd, if_pos ⟨h1, h2⟩])
theorem s2_no {L : List Int} {c d k : Nat} {l : List ByteArray} {b : ByteArray} {X : Option Nat} (hs : l[k]? = some b) (H : Hid (X = sz2 L c k (l.drop k))) (h : hasB L k = false) (hd : d = if c = 0 then b.size else c) (h1 : ¬ (b.size = d ∧ d ≠ 0)) : X = none := by
  obtain ⟨hk, rfl⟩ := List.getElem?_eq_some_iff.1 hs
  rw [H.out, List.drop_eq_getElem_cons hk, sz2, if_neg (by rw [h]; decide), ← hd, if_neg h1]
theorem s2_end {L : List Int} {c k : Nat} {l : List ByteArray} {X : Option Nat} (hk : l.length ≤ k) (H : Hid (X = sz2 L c k (l.drop k))) : X = some c := by
  rw [H.out, List.drop_of_length_le hk, sz2]
set_option maxRecDepth 20000 in
set_option maxHeartbeats 4000000 in
theorem size_s (bl mo : List ByteArray) (L : List Int) (vb vl vm : Value) (w : World) (hb : StrL w vb bl) (hl : IntsAt w vl L) (hm : StrL w vm mo) (hn : bl.length ≤ 1048576) (hL : L.length ≤ 1048576) (hM : mo.length ≤ 2) :
    Calls Tryz.prog 172 #[vb, vl, vm] w fun e w' => e = .returned (.int .i64 (szS bl L mo)) ∧ w = w' := by
  have HIL := Lib.hid hl
  obtain ⟨Ab, cb, rfl, hAb⟩ := hb
  obtain ⟨Al, cl, rfl, hAl⟩ := hl
  obtain ⟨Am, cm, rfl, hAm⟩ := hm
  have HAB := Lib.hid (show ∀ k s, bl[k]? = some s → ∃ g, Ab = some ⟨g, 0, none⟩ ∧ w.cell? ⟨g, k, none⟩ = some (.string s) from fun k x hk => by
    obtain ⟨g, h1, h2, h3⟩ := hAb.resolve_left (by rintro rfl; simp at hk)
    exact ⟨g, h1, h3 k x hk⟩)
  have HAM := Lib.hid (show ∀ k s, mo[k]? = some s → ∃ g, Am = some ⟨g, 0, none⟩ ∧ w.cell? ⟨g, k, none⟩ = some (.string s) from fun k x hk => by
    obtain ⟨g, h1, h2, h3⟩ := hAm.resolve_left (by rintro rfl; simp at hk)
    exact ⟨g, h1, h3 k x hk⟩)
  clear hAb hAl hAm
  go_enter Tryz.func172, Tryz.ntmps172
  go_wp2
  go_loop [8, 7] (fun i z => ∃ k c : Nat, k ≤ mo.length ∧ i = .int .i64 k ∧ z = .int .i64 c ∧ Hid (sz1 0 mo = sz1 c (mo.drop k))) (fun i _ => mo.length - (intOf i).toNat)
  case atStart => exact ⟨0, 0, by omega, rfl, rfl, Lib.hid rfl⟩
  case round =>
    obtain ⟨k, c, hk, rfl, rfl, HK⟩ := hrel
    by_cases hlt : k < mo.length
    · obtain ⟨s, hs⟩ : ∃ s, mo[k]? = some s := ⟨mo[k], List.getElem?_eq_getElem hlt⟩
      obtain ⟨gm, rfl, p0⟩ := HAM.out k s hs
      have HS := Lib.hid hs
      clear hs
      by_cases hc : c = 0
      · subst hc
        have HN := s1_zero HS.out HK
        go_wp2
        go_round
        case rel => exact ⟨k + 1, _, by omega, by go_num, rfl, HN⟩
        case measure => simp [intOf]; omega
      · have hd : ((c : Int) == 0) = false := by rw [beq_eq_false_iff_ne]; omega
        cases he : s.toList.isEmpty
        · by_cases hz : s.size = c
          · have hd2 : ((s.size : Int) != (c : Int)) = false := by simp [hz]
            have HN := s1_go HS.out HK hc (by rw [he]; simp [hz])
            have HC := Lib.hid hc
            have HZ := Lib.hid hz
            clear hc hz
            go_wp2
            go_round
            case rel => exact ⟨k + 1, c, by omega, by go_num, rfl, HN⟩
            case measure => simp [intOf]; omega
          · have hd2 : ((s.size : Int) != (c : Int)) = true := by simp; omega
            have HN := Lib.hid (s1_no HS.out HK hc (by rw [he]; simp [hz]))
            have HZ : Hid (szS bl L mo = 0) := Lib.hid (by unfold szS; rw [HN.out])
            go_wp2
            go_ret
            exact ⟨ret_int (by rw [HZ.out]; rfl), rfl⟩
        · have HN := s1_go HS.out HK hc (by rw [he]; rfl)
          have HC := Lib.hid hc
          clear hc
          go_wp2
          go_round
          case rel => exact ⟨k + 1, c, by omega, by go_num, rfl, HN⟩
          case measure => simp [intOf]; omega
    · have H1 := Lib.hid (s1_end (by omega) HK)
      go_wp2
      go_loop [9, 7] (fun i z => ∃ k d : Nat, k ≤ bl.length ∧ i = .int .i64 k ∧ z = .int .i64 d ∧ Hid (sz2 L c 0 bl = sz2 L d k (bl.drop k))) (fun i _ => bl.length - (intOf i).toNat)
      case atStart => exact ⟨0, c, by omega, rfl, rfl, Lib.hid rfl⟩
      case round =>
        obtain ⟨j, d, hj, rfl, rfl, HJ⟩ := hrel
        by_cases hjl : j < bl.length
        · obtain ⟨b, hbj⟩ : ∃ b, bl[j]? = some b := ⟨bl[j], List.getElem?_eq_getElem hjl⟩
          obtain ⟨gb, rfl, p0⟩ := HAB.out j b hbj
          have HS := Lib.hid hbj
          have HCN := Lib.hid (has_s L j _ w HIL.out (by omega) (by omega))
          clear hbj
          cases hh : hasB L j
          · rw [hh] at HCN
            by_cases hd : d = 0
            · subst hd
              by_cases hz : b.size = 0
              · have hd2 : ((b.size : Int) == 0) = true := by simp [hz]
                have HN := Lib.hid (s2_no HS.out HJ hh (d := b.size) (by simp) (by omega))
                have HZ : Hid (szS bl L mo = 0) := Lib.hid (by unfold szS; rw [H1.out]; simp only []; rw [HN.out])
                go_wp2_with (go_at_call 204; refine HCN.out.mono ?_; rintro e' w4 ⟨rfl, rfl⟩)
                go_ret
                exact ⟨ret_int (by rw [HZ.out]; rfl), rfl⟩
              · have hd2 : ((b.size : Int) == 0) = false := by rw [beq_eq_false_iff_ne]; omega
                have HN := s2_go HS.out HJ hh (d := b.size) (by simp) rfl hz
                have HZ := Lib.hid hz
                clear hz
                go_wp2_with (go_at_call 204; refine HCN.out.mono ?_; rintro e' w4 ⟨rfl, rfl⟩)
                go_round
                case rel => exact ⟨j + 1, b.size, by omega, by go_num, rfl, HN⟩
                case measure => simp [intOf]; omega
            · have hd2 : ((d : Int) == 0) = false := by rw [beq_eq_false_iff_ne]; omega
              by_cases hz : b.size = d
              · have hd3 : ((b.size : Int) != (d : Int)) = false := by simp [hz]
                have HN := s2_go HS.out HJ hh (d := d) (by rw [if_neg hd]) hz hd
                have HZ := Lib.hid hz
                have HD := Lib.hid hd
                clear hz hd
                go_wp2_with (go_at_call 204; refine HCN.out.mono ?_; rintro e' w4 ⟨rfl, rfl⟩)
                go_round
                case rel => exact ⟨j + 1, d, by omega, by go_num, rfl, HN⟩
                case measure => simp [intOf]; omega
              · have hd3 : ((b.size : Int) != (d : Int)) = true := by simp; omega
                have HN := Lib.hid (s2_no HS.out HJ hh (d := d) (by rw [if_neg hd]) (by omega))
                have HZ : Hid (szS bl L mo = 0) := Lib.hid (by unfold szS; rw [H1.out]; simp only []; rw [HN.out])
                go_wp2_with (go_at_call 204; refine HCN.out.mono ?_; rintro e' w4 ⟨rfl, rfl⟩)
                go_ret
                exact ⟨ret_int (by rw [HZ.out]; rfl), rfl⟩
          · rw [hh] at HCN
            have HN := s2_has HS.out HJ hh
            go_wp2_with (go_at_call 204; refine HCN.out.mono ?_; rintro e' w4 ⟨rfl, rfl⟩)
            go_round
            case rel => exact ⟨j + 1, d, by omega, by go_num, rfl, HN⟩
            case measure => simp [intOf]; omega
        · have H2 := Lib.hid (s2_end (by omega) HJ)
          have HZ : Hid (szS bl L mo = if 64 < d ∨ 128 < bl.length ∨ bl.length = 0 then 0 else d) := Lib.hid (by unfold szS; rw [H1.out]; simp only []; rw [H2.out])
          by_cases h1 : 64 < d
          · have e1 : decide ((64 : Int) < (d : Int)) = true := decide_eq_true (by omega)
            have HF : Hid (szS bl L mo = 0) := Lib.hid (by rw [HZ.out, if_pos (by omega)])
            go_wp2
            go_ret
            exact ⟨ret_int (by rw [HF.out]; rfl), rfl⟩
          · have e1 : decide ((64 : Int) < (d : Int)) = false := decide_eq_false (by omega)
            by_cases h2 : 128 < bl.length
            · have e2 : decide ((128 : Int) < (bl.length : Int)) = true := decide_eq_true (by omega)
              have HF : Hid (szS bl L mo = 0) := Lib.hid (by rw [HZ.out, if_pos (by omega)])
              go_wp2
              go_ret
              exact ⟨ret_int (by rw [HF.out]; rfl), rfl⟩
            · have e2 : decide ((128 : Int) < (bl.length : Int)) = false := decide_eq_false (by omega)
              by_cases h3 : bl.length = 0
              · have e3 : ((bl.length : Int) == 0) = true := by simp [h3]
                have HF : Hid (szS bl L mo = 0) := Lib.hid (by rw [HZ.out, if_pos (by omega)])
                go_wp2
                go_ret
                exact ⟨ret_int (by rw [HF.out]; rfl), rfl⟩
              · have e3 : ((bl.length : Int) == 0) = false := by rw [beq_eq_false_iff_ne]; omega
                have HF : Hid (szS bl L mo = d) := Lib.hid (by rw [HZ.out, if_neg (by omega)])
                go_wp2
                go_ret
                exact ⟨ret_int (by rw [HF.out]), rfl⟩
def zerL (n : Nat) (L : List Int) (bl : List ByteArray) : List ByteArray := bl.mapIdx fun i b => if hasB L i = true then strN (List.replicate n 0) else b
theorem zer_len (n : Nat) (L : List Int) (bl : List ByteArray) : (zerL n L bl).length = bl.length := by simp [zerL]
theorem zer_get {n : Nat} {L : List Int} {bl : List ByteArray} {k : Nat} {b : ByteArray} (h : bl[k]? = some b) : (zerL n L bl)[k]? = some (if hasB L k = true then strN (List.replicate n 0) else b) := by
  unfold zerL; rw [List.getElem?_mapIdx, h]; rfl
set_option maxRecDepth 20000 in
set_option maxHeartbeats 4000000 in
theorem left_s (bl : List ByteArray) (L : List Int) (n : Nat) (vb vl : Value) (w : World) (hb : StrL w vb bl) (hl : IntsAt w vl L) (hn : bl.length ≤ 1048576) (hL : L.length ≤ 1048576) (hz : n ≤ 64) :
    Calls Tryz.prog 173 #[vb, vl, .int .i64 n] w fun e w' => RetL scell 1 9 w (zerL n L bl) e w' := by
  obtain ⟨i0, hi, hz0, hz1, hz2⟩ := info_parts scell_info
  have HIL := Lib.hid hl
  obtain ⟨Ab, cb, rfl, hAb⟩ := hb
  obtain ⟨Al, cl, rfl, hAl⟩ := hl
  have HAB := Lib.hid (show ∀ k s, bl[k]? = some s → ∃ g, Ab = some ⟨g, 0, none⟩ ∧ g < w.heap.size ∧ w.cell? ⟨g, k, none⟩ = some (.string s) from fun k x hk => by
    obtain ⟨g, h1, h2, h3⟩ := hAb.resolve_left (by rintro rfl; simp at hk)
    exact ⟨g, h1, h2, h3 k x hk⟩)
  have hzl := zer_len n L bl
  have HZG := Lib.hid (fun k b (h : bl[k]? = some b) => zer_get (n := n) (L := L) h)
  generalize zerL n L bl = zl at *
  clear hAb hAl
  go_enter Tryz.func173, Tryz.ntmps173
  go_wp2
  go_loopw [8, 7] (fun i out wr => ∃ k : Nat, k ≤ bl.length ∧ i = .int .i64 k ∧ Below w.heap.size w wr ∧ StringL w.heap.size wr out (zl.take k)) (fun i _ _ => bl.length - (intOf i).toNat)
  case atStart => exact ⟨0, by omega, rfl, (by repeat (first | exact Below.refl _ _ | refine Below.alloc ?_ (by first | omega | (simp; done) | (simp; omega)) _ | apply Below.drew | apply below_drewN | refine Below.setCell ?_ (by first | omega | (simp; done) | (simp; omega)) _ | refine Below.trans ?_ (Below.mono (by assumption) (by first | omega | (simp; done) | (simp; omega))))), by simpa using OwnL.of_empty w (Nat.le_refl _)⟩
  case round =>
    obtain ⟨k, hk, rfl, hbw, how⟩ := hrel
    have zr := hbw.size
    by_cases hlt : k < bl.length
    · obtain ⟨b, hbk⟩ : ∃ b, bl[k]? = some b := ⟨bl[k], List.getElem?_eq_getElem hlt⟩
      obtain ⟨gb, rfl, hgb, hcb⟩ := HAB.out k b hbk
      have p0 := (hbw.cell (p := ⟨gb, k, none⟩) hgb).trans hcb
      have HIL2 : Hid (IntsAt wr (.slice Al L.length cl) L) := Lib.hid (by
        obtain ⟨A', c', he, hA'⟩ := HIL.out
        obtain ⟨rfl, rfl⟩ : Al = A' ∧ cl = c' := by simpa using he
        refine ⟨_, _, rfl, hA'.imp id ?_⟩
        rintro ⟨g, rfl, hg, hc⟩
        exact ⟨g, rfl, by omega, fun k x hk => (hbw.cell (p := ⟨g, k, none⟩) hg).trans (hc k x hk)⟩)
      have HCN := Lib.hid (has_s L k _ wr HIL2.out (by omega) (by omega))
      have hzk := HZG.out k b hbk
      have htl : (zl.take k).length = k := by simp; omega
      have HO := Lib.hid how
      clear how hbk hcb
      cases hh : hasB L k
      · rw [hh] at HCN hzk
        have HT : Hid (zl.take (k + 1) = zl.take k ++ [b]) := Lib.hid (by
          obtain ⟨h1, h2⟩ := List.getElem?_eq_some_iff.1 hzk
          rw [List.take_succ_eq_append_getElem h1, h2]; rfl)
        clear hzk
        go_wp2_with (first | (go_at_call 204; refine HCN.out.mono ?_; rintro e' w4 ⟨rfl, rfl⟩) | (at_builtin; refine wpList_app1 scell 1 scell_len _ rfl _ _ _ rfl w.heap.size 9 i0 (.string .empty) 16 Tryz.underlying24 hi hz0 hz1 hz2 rfl (by decide) _ (zl.take k) rfl (HO.out.alloc _) _ 1 b rfl ?_ (by simp [scell, Value.oneCell']) (by omega) (by omega) (by simp; omega) ?_; (· intro j u hu; cases j with | zero => (simp [scell] at hu; subst hu; simp) | succ j => simp [scell] at hu); intro v' w5 how2 hg2))
        go_roundw
        case rel => exact ⟨k + 1, by omega, by go_num, own_grown_below (HO.out.alloc _) (Below.alloc hbw zr _) hg2 (Nat.le_refl _) (by simp; omega), by rw [HT.out]; exact how2⟩
        case measure => simp [intOf]; omega
      · rw [hh] at HCN hzk
        have HT : Hid (zl.take (k + 1) = zl.take k ++ [strN (List.replicate n 0)]) := Lib.hid (by
          obtain ⟨h1, h2⟩ := List.getElem?_eq_some_iff.1 hzk
          rw [List.take_succ_eq_append_getElem h1, h2]; rfl)
        obtain ⟨wb, hmk, hbuf, hb0, hwz⟩ := buf_made wr n (by omega)
        have hst := hbuf.str (n := n) (c := n) (by simp)
        have HOB := Lib.hid (OwnL.below HO.out hb0)
        have HBB := Lib.hid (hbw.trans (hb0.mono zr))
        have zwb : wr.heap.size ≤ wb.heap.size := hb0.size
        clear hzk hbuf hwz
        go_wp2_with (first | (go_at_call 204; refine HCN.out.mono ?_; rintro e' w4 ⟨rfl, rfl⟩) | (at_builtin; refine wpList_app1 scell 1 scell_len _ rfl _ _ _ rfl w.heap.size 9 i0 (.string .empty) 16 Tryz.underlying24 hi hz0 hz1 hz2 rfl (by decide) _ (zl.take k) rfl (HOB.out.alloc _) _ 1 (strN (List.replicate n 0)) rfl ?_ (by simp [scell, Value.oneCell']) (by omega) (by omega) (by simp; omega) ?_; (· intro j u hu; cases j with | zero => (simp [scell] at hu; subst hu; simp) | succ j => simp [scell] at hu); intro v' w5 how2 hg2))
        go_roundw
        case rel => exact ⟨k + 1, by omega, by go_num, own_grown_below (HOB.out.alloc _) (Below.alloc HBB.out (by omega) _) hg2 (Nat.le_refl _) (by simp; omega), by rw [HT.out]; exact how2⟩
        case measure => simp [intOf]; omega
    · go_wp2
      go_ret
      exact ⟨_, rfl, by rw [List.take_of_length_le (by omega)] at how; exact how, hbw⟩
end Go.Proofs.YtfcdienphillnaaGreat
namespace Go.Proofs.YtfcdienphillnaaGreat
set_option linter.unusedVariables false
set_option linter.unusedSimpArgs false
open Go.RowKit
theorem kn_mem {L : List Int} {j k : Nat} {bl : List ByteArray} {b : ByteArray} (h : bl[k]? = some b) (hh : hasB L (j + k) = false) : b ∈ knF L j bl := by
  induction bl generalizing j k with
  | nil => simp at h
  | cons a r ih =>
    unfold knF
    cases k with
    | zero =>
      obtain rfl : a = b := by simpa using h
      rw [if_neg (by rw [show j = j + 0 by omega, hh]; decide)]
      exact List.mem_cons_self
    | succ k =>
      have := ih (j := j + 1) (k := k) (by simpa using h) (by rw [← hh]; congr 1; omega)
      split
      · exact this
      · exact List.mem_cons_of_mem _ this
theorem left_sizes {L : List Int} {bl mo : List ByteArray} {n : Nat} (h : allSP n (ktF bl L mo)) : ∀ s ∈ leftG L bl, s.size = 0 ∨ s.size = n := by
  intro s hs
  obtain ⟨k, hk, he⟩ := List.mem_iff_getElem.1 hs
  rw [left_len] at hk
  have h1 := left_get (L := L) (List.getElem?_eq_getElem hk)
  rw [List.getElem?_eq_getElem (by rw [left_len]; exact hk), he] at h1
  obtain rfl := Option.some.inj h1
  cases hh : hasB L k
  · exact .inr (h _ (List.mem_append_left _ (kn_mem (j := 0) (List.getElem?_eq_getElem hk) (by rw [Nat.zero_add]; exact hh))))
  · exact .inl rfl
theorem bts_zeroP (n : Nat) : bts (strN (List.replicate n 0)) = List.replicate n 0 := bts_strN zeros_lt
theorem plus_zero {p : List Nat} {f n : Nat} (hp : p.length = n) : plusN p f (List.replicate n 0) = p := by
  refine List.ext_getElem (by simp [plusN, hp]) fun k h1 h2 => ?_
  simp [plusN, gmul_of_zero]
theorem par_zer {L : List Int} {n k : Nat} {l : List ByteArray} {p q : List Nat} (hn : n ≠ 0) (hp : p.length = n) (hq : q.length = n) (hl : ∀ i b, l[i]? = some b → hasB L (k + i) = false → b.size = n) :
    parF p q k (l.mapIdx fun i b => if hasB L (k + i) = true then strN (List.replicate n 0) else b) = parF p q k (l.mapIdx fun i b => if hasB L (k + i) = true then .empty else b) := by
  induction l generalizing k p q with
  | nil => rfl
  | cons b r ih =>
    rw [List.mapIdx_cons, List.mapIdx_cons]
    have hstep : ∀ (z : ByteArray), (r.mapIdx fun i b => if hasB L (k + (i + 1)) = true then z else b) = (r.mapIdx fun i b => if hasB L (k + 1 + i) = true then z else b) := fun z => by
      congr 1; funext i b; rw [show k + (i + 1) = k + 1 + i by omega]
    rw [hstep, hstep]
    have hl' : ∀ i b, r[i]? = some b → hasB L (k + 1 + i) = false → b.size = n := fun i b' hb hh => hl (i + 1) b' (by simpa using hb) (by rw [← hh]; congr 1; omega)
    by_cases hb : hasB L (k + 0) = true
    · rw [if_pos hb, if_pos hb]
      unfold parF
      rw [if_neg (by rw [strN_size]; simpa using hn), if_pos (by rfl), bts_zeroP, plus_zero hp, plus_zero hq]
      exact ih hp hq hl'
    · rw [if_neg hb, if_neg hb]
      have hbs := hl 0 b rfl (by simpa using hb)
      unfold parF
      split
      · exact ih hp hq hl'
      · exact ih (by rw [plusN_len (by rw [bts_len]; omega)]; exact hp) (by rw [plusN_len (by rw [bts_len]; omega)]; exact hq) hl'
theorem par_left {L : List Int} {n : Nat} {bl mo : List ByteArray} (hn : n ≠ 0) (h : allSP n (ktF bl L mo)) : parF (List.replicate n 0) (List.replicate n 0) 0 (zerL n L bl) = parF (List.replicate n 0) (List.replicate n 0) 0 (leftG L bl) := by
  have := par_zer (L := L) (k := 0) (l := bl) (p := List.replicate n 0) (q := List.replicate n 0) hn (List.length_replicate) (List.length_replicate) (fun i b hb hh => h b (List.mem_append_left _ (kn_mem (j := 0) hb hh)))
  simp only [Nat.zero_add] at this
  exact this
def r1K (bl : List ByteArray) (i : Int) (p : ByteArray) : Nat := szK bl.length (ktF bl [i] [p])
def r1X (bl : List ByteArray) (i : Int) (p : ByteArray) : List Nat := xorN (parF (List.replicate (r1K bl i p) 0) (List.replicate (r1K bl i p) 0) 0 (leftG [i] bl)).1 (bts p)
def r1E (bl : List ByteArray) (i : Int) (p : ByteArray) : ByteArray × Int :=
  if inB i 0 ((bl.length : Int) - 1) = false then (.empty, 2) else if r1K bl i p = 0 ∨ p.size = 0 then (.empty, 1) else (strN (r1X bl i p), 0)
def r1V (bl : List ByteArray) (i : Int) (p : ByteArray) : Value := .tuple #[.string (r1E bl i p).1, .int .i64 (r1E bl i p).2]
end Go.Proofs.YtfcdienphillnaaGreat
namespace Go.Proofs.YtfcdienphillnaaGreat
set_option linter.unusedVariables false
set_option linter.unusedSimpArgs false
open Go.RowKit
theorem region_stP {P : Program} {id : Nat} {Q : Exit → Act → World → Prop} {a : Act} {w : World} {l : List Oper} (n : Nat) (hm : P.follows .mixedOrders = true) (hB : Region.lexTailB .any l.toArray n = true)
    (h : ∀ w6, w6 = w.drew → wpStill P l.toArray w6 (fun a' => wpList P l.toArray Q (l.drop n) a' w6) (l.take n) a) : (Code.region id l.toArray true).wp P Q a w := wp_region_still_tail n hm hB (h _ rfl)
def R2One (w : World) (bl : List ByteArray) (i : Int) (p : ByteArray) (e : Ending) (w' : World) : Prop :=
  ∃ (v' : Value) (c : Int), e = .returned (.tuple #[v', .int .i64 c]) ∧ ((r1K bl i p = 0 ∧ v' = .slice none 0 0 ∧ c = 1) ∨ (r1K bl i p ≠ 0 ∧ c = 0 ∧ StringL w.heap.size w' v' ((zerL (r1K bl i p) [i] bl).set i.toNat (strN (r1X bl i p))))) ∧ Below w.heap.size w w'
theorem zer_sizes {L : List Int} {bl mo : List ByteArray} {n : Nat} (h : allSP n (ktF bl L mo)) : ∀ s ∈ zerL n L bl, s.size = n := by
  intro s hs
  obtain ⟨k, hk, he⟩ := List.mem_iff_getElem.1 hs
  rw [zer_len] at hk
  have h1 := zer_get (n := n) (L := L) (List.getElem?_eq_getElem hk)
  rw [List.getElem?_eq_getElem (by rw [zer_len]; exact hk), he] at h1
  obtain rfl := Option.some.inj h1
  cases hh : hasB L k
  · exact h _ (List.mem_append_left _ (kn_mem (j := 0) (List.getElem?_eq_getElem hk) (by rw [Nat.zero_add]; exact hh)))
  · simp [strN_size]
end Go.Proofs.YtfcdienphillnaaGreat
