/- The certificate of a repaired disc proves it: the plain law. -/
import Derived.Test.YtddihmpiaemadaaGreatDoorFc38
namespace Go.Proofs.YtddihmpiaemadaaGreatDoor
set_option linter.unusedVariables false
set_option linter.unusedSimpArgs false
open Go.RowKit
/-! exact sizes -/
theorem sb_exact {s : ByteArray} {l : List Int} {c : Int} (h : (sbE s l c).2 = 0) : (sbE s l c).1.size = s.size := by
  unfold sbE at h ⊢
  by_cases hok : sbOk s l c = true
  · rw [if_pos hok] at h ⊢
    unfold sbR at h ⊢
    split
    · rename_i hx; rw [hx] at h; simp at h
    · rename_i b hx
      rw [hx] at h
      by_cases hb : b.length < (exN (l.map Int.toNat) (8 * l.length)).length
      · simp only [if_pos hb] at h; cases h
      · rw [if_neg hb]
        show (strN _).size = _
        rw [strN_size, fillN_len, bts_len]
  · rw [if_neg hok] at h; cases h
theorem fid_at {cr : List Int} {k j : Nat} {s : ByteArray} : ∀ {ds : List Dsc} {i : Nat}, firD cr k i ds = some (j, s) → ∃ d, i ≤ j ∧ ds[j - i]? = some d ∧ (d.secs.getD k ⟨.empty, 0⟩).data = s ∧ (d.secs.getD k ⟨.empty, 0⟩).state = 1 := by
  intro ds
  induction ds with
  | nil => intro i h; cases h
  | cons a r ih =>
    intro i h
    unfold firD at h
    split at h
    · rename_i hh
      rw [Bool.and_eq_true, beq_iff_eq] at hh
      injection h with h
      injection h with h1 h2
      subst h1
      exact ⟨a, Nat.le_refl _, by rw [Nat.sub_self]; rfl, h2, hh.1⟩
    · obtain ⟨d, h1, h2, h3, h4⟩ := ih h
      refine ⟨d, by omega, ?_, h3, h4⟩
      rw [show j - i = (j - (i + 1)) + 1 by omega, List.getElem?_cons_succ]
      exact h2
theorem fid_sec {cr : List Int} {k j : Nat} {s : ByteArray} {ds : List Dsc} (hk : ∀ d ∈ ds, k < d.secs.length) (h : firD cr k 0 ds = some (j, s)) : ∃ d t, ds[j]? = some d ∧ d.secs[k]? = some t ∧ t.data = s ∧ t.state = 1 := by
  obtain ⟨d, _, h2, h3, h4⟩ := fid_at h
  rw [Nat.sub_zero] at h2
  have hl := hk d (List.mem_of_getElem? h2)
  have e : d.secs.getD k ⟨.empty, 0⟩ = d.secs[k] := by rw [List.getD_eq_getElem?_getD, List.getElem?_eq_getElem hl]; rfl
  rw [e] at h3 h4
  exact ⟨d, _, h2, List.getElem?_eq_getElem hl, h3, h4⟩
section
variable {e : Evd} {z : Dsc} {P m T k : Nat}
theorem EvF.kl (F : EvF e z P m T) (hk : k < T * P) : ∀ d ∈ e.ds, k < d.secs.length := fun d hd => by rw [F.dss d hd]; exact hk
theorem slv_in {e : Evd} {k : Nat} (h : (slvE e k).2 = true) : ∃ s, s ∈ rdF k e.ds ∧ 0 ≤ e.cr.getD k 0 ∧ (sbE s (difF (rdF k e.ds)) (e.cr.getD k 0)).2 = 0 ∧ (slvE e k).1 = (sbE s (difF (rdF k e.ds)) (e.cr.getD k 0)).1 := by
  unfold slvE at h ⊢
  split at h
  · cases h
  · rename_i hn
    rw [if_neg hn]
    refine ⟨(rdF k e.ds).getD 0 .empty, ?_, by omega, by simpa using h, rfl⟩
    cases hr : rdF k e.ds with
    | nil => exact absurd (.inr hr) hn
    | cons a r => simp
/-- the first source of a sector, as the check looks at it -/
theorem fir_all (F : EvF e z P m T) (hk : k < T * P) (h : rpOk e k = true) :
    (firE e k).2.1.size = m ∧ fitB e.cr k (firE e k).2.1 = true ∧ (1 ≤ (firE e k).1.kind ∧ (firE e k).1.kind ≤ 3) ∧ (0 ≤ (firE e k).1.dump ∧ (firE e k).1.dump ≤ 4) ∧ ((firE e k).1.dump = 0 ∨ (firE e k).1.kind = 1) := by
  unfold rpOk at h
  cases hd : firD e.cr k 0 e.ds with
  | some x =>
    obtain ⟨i, s⟩ := x
    rw [fir_dump hd]
    obtain ⟨d, t, h1, h2, h3, _⟩ := fid_sec (F.kl hk) hd
    have hi := (List.getElem?_eq_some_iff.1 h1).1
    have h5 := F.d5
    exact ⟨by show s.size = m; rw [← h3]; exact F.dm d (List.mem_of_getElem? h1) t (List.mem_of_getElem? h2), fid_fit hd, ⟨by show (1 : Int) ≤ 1; omega, by show (1 : Int) ≤ 3; omega⟩, ⟨by show (0 : Int) ≤ (i : Int); omega, by show (i : Int) ≤ 4; omega⟩, .inr rfl⟩
  | none =>
    cases hv : ((voteE (rdF k e.ds)).2 && fitB e.cr k (voteE (rdF k e.ds)).1)
    · rw [fir_solve hd hv] at h ⊢
      obtain ⟨s, h1, h2, h3, h4⟩ := slv_in (show (slvE e k).2 = true from h)
      refine ⟨?_, ?_, ⟨by show (1 : Int) ≤ 3; omega, by show (3 : Int) ≤ 3; omega⟩, ⟨by show (0 : Int) ≤ 0; omega, by show (0 : Int) ≤ 4; omega⟩, .inl rfl⟩
      · show (slvE e k).1.size = m
        rw [h4, sb_exact h3]
        exact rd_size F.dm (F.kl hk) s h1
      · show fitB e.cr k (slvE e k).1 = true
        unfold fitB
        rw [Bool.or_eq_true, beq_iff_eq, beq_iff_eq]
        right
        rw [h4]; exact sb_fits h3
    · rw [fir_vote hd hv]
      rw [Bool.and_eq_true] at hv
      refine ⟨?_, hv.2, ⟨by show (1 : Int) ≤ 2; omega, by show (2 : Int) ≤ 3; omega⟩, ⟨by show (0 : Int) ≤ 0; omega, by show (0 : Int) ≤ 4; omega⟩, .inl rfl⟩
      show (voteE (rdF k e.ds)).1.size = m
      have hv1 := hv.1
      unfold voteE at hv1 ⊢
      split at hv1
      · rename_i ho
        rw [if_pos ho]
        show (strN (voteV _)).size = m
        rw [strN_size]
        have hl : (voteV (rdF k e.ds)).length = ((rdF k e.ds).getD 0 .empty).size := by unfold voteV; simp
        rw [hl]
        unfold voteOk at ho
        rw [Bool.and_eq_true, decide_eq_true_eq] at ho
        have hs := rd_size F.dm (F.kl hk)
        cases hr : rdF k e.ds with
        | nil => rw [hr] at ho; simp at ho
        | cons a r => rw [hr] at hs; exact hs a List.mem_cons_self
      · cases hv1
/-- the check of a first source -/
theorem fir_src {l : List Src} {d : Dsc} (F : EvF e z P m T) (hk : k < T * P) (h : rpOk e k = true) (hd : d.secs[k]? = some (rpG (firE e k).2.1)) : srcC e d l (firE e k).1 = true := by
  obtain ⟨_, hfit, _⟩ := fir_all F hk h
  unfold srcC
  rw [fir_sector, Int.toNat_natCast, hd]
  show ((1 : Int) == 1 && (fitB e.cr k (firE e k).2.1 && _)) = true
  rw [hfit]
  show (if (firE e k).1.kind = 1 then _ else _) = true
  unfold rpOk at h
  cases hD : firD e.cr k 0 e.ds with
  | some x =>
    obtain ⟨i, s⟩ := x
    obtain ⟨y, t, h1, h2, h3, h4⟩ := fid_sec (F.kl hk) hD
    rw [fir_dump hD]
    show (if (1 : Int) = 1 then (match e.ds[((i : Nat) : Int).toNat]? with | none => false | some y => (match y.secs[k]? with | none => false | some z => z.data.toList == s.toList && z.state == 1)) else _) = true
    rw [if_pos rfl, Int.toNat_natCast, h1]
    show (match y.secs[k]? with | none => false | some z => z.data.toList == s.toList && z.state == 1) = true
    rw [h2]
    show (t.data.toList == s.toList && t.state == 1) = true
    rw [h3, h4]; simp
  | none =>
    cases hv : ((voteE (rdF k e.ds)).2 && fitB e.cr k (voteE (rdF k e.ds)).1)
    · rw [fir_solve hD hv] at h ⊢
      have h' : (slvE e k).2 = true := h
      show (if (3 : Int) = 1 then _ else if (3 : Int) = 2 then _ else if (3 : Int) = 3 then (slvE e k).2 && (slvE e k).1.toList == (slvE e k).1.toList else _) = true
      rw [if_neg (by decide), if_neg (by decide), if_pos rfl, h']; simp
    · rw [fir_vote hD hv]
      rw [Bool.and_eq_true] at hv
      show (if (2 : Int) = 1 then _ else if (2 : Int) = 2 then (voteE (rdF k e.ds)).2 && (voteE (rdF k e.ds)).1.toList == (voteE (rdF k e.ds)).1.toList else _) = true
      rw [if_neg (by decide), if_pos rfl, hv.1]; simp
end
/-! restored blocks -/
theorem xor_eq {a b : List Nat} {n : Nat} (ha : a.length = n) (hb : b.length = n) : (xorN a b).length = n := by
  rw [xorN_len (by omega)]; exact ha
theorem set_get {l : List ByteArray} {i : Nat} {b : ByteArray} (h : i < l.length) : (l.set i b).getD i .empty = b := by
  rw [List.getD_eq_getElem?_getD, List.getElem?_set_self h]; rfl
theorem r2_exact {bl : List ByteArray} {L : List Int} {p q : ByteArray} (h : (r2E bl L p q).2 = 0) (hpq : ¬ (p.size = 0 ∧ q.size = 0)) {j : Int} (hj : j ∈ L) : ((r2E bl L p q).1.getD j.toNat .empty).size = rK bl L p q ∧ rK bl L p q ≠ 0 := by
  unfold r2E at h ⊢
  by_cases h1 : risesB 0 ((bl.length : Int) - 1) L = false
  · rw [if_pos h1] at h; cases h
  · rw [if_neg h1] at h ⊢
    by_cases h2 : rK bl L p q = 0 ∨ bl.length = 0
    · rw [if_pos h2] at h; cases h
    · rw [if_neg h2] at h ⊢
      by_cases h3 : 2 < cntL L p q
      · rw [if_pos h3] at h; cases h
      · rw [if_neg h3]
        have g := grp (bl := bl) (L := L) (p := p) (q := q) (fun h => h2 (.inl h))
        obtain ⟨x1, y1⟩ := g.len
        have hr : risesB 0 ((bl.length : Int) - 1) L = true := by cases hh : risesB 0 ((bl.length : Int) - 1) L with
          | true => rfl
          | false => exact absurd hh h1
        obtain ⟨b1, b2, _⟩ := rises_low hr
        refine ⟨?_, g.n1⟩
        show ((outL (leftG L bl) (rX bl L p q) (rY bl L p q) p q L).getD j.toNat .empty).size = rK bl L p q
        have hlen : (leftG L bl).length = bl.length := left_len _ _
        match L, hj with
        | [i], hj =>
          obtain rfl : j = i := by simpa using hj
          have hb := b1 j List.mem_cons_self
          unfold outL
          simp only
          rw [set_get (by omega)]
          split
          · rename_i hp
            have hq : q.size ≠ 0 := fun hq => hpq ⟨hp, hq⟩
            rw [strN_size, scN_len, xor_eq y1 ((bts_len q).trans (g.q hq))]
          · rename_i hp
            rw [strN_size, xor_eq x1 ((bts_len p).trans (g.p hp))]
        | [i, i'], hj =>
          have hp : p.size ≠ 0 := fun hp => h3 (by have e : e1 p = 1 := (by unfold e1; exact if_pos hp); unfold cntL; rw [e]; simp only [List.length_cons, List.length_nil]; omega)
          have hq : q.size ≠ 0 := fun hq => h3 (by have e : e1 q = 1 := (by unfold e1; exact if_pos hq); unfold cntL; rw [e]; simp only [List.length_cons, List.length_nil]; omega)
          have hbi := b1 i List.mem_cons_self
          have hbi' := b1 i' (by simp)
          have hlt : i < i' := (List.pairwise_cons.1 b2).1 i' (by simp)
          have hX := xor_eq x1 ((bts_len p).trans (g.p hp))
          have hY := xor_eq y1 ((bts_len q).trans (g.q hq))
          have hF : (fstF (rX bl [i, i'] p q) (rY bl [i, i'] p q) i i' p q).length = rK bl [i, i'] p q := by
            unfold fstF
            rw [scN_len, xor_eq hY (by rw [scN_len]; exact hX)]
          unfold outL
          simp only
          by_cases hji : j = i'
          · subst hji
            rw [set_get (by rw [List.length_set]; omega), strN_size, xor_eq hX hF]
          · obtain rfl : j = i := by simp at hj; omega
            rw [List.getD_eq_getElem?_getD, List.getElem?_set_ne (by omega), ← List.getD_eq_getElem?_getD, set_get (by omega), strN_size, hF]
        | _ :: _ :: _ :: _, _ => exact absurd h3 (by unfold cntL; simp; omega)
theorem ls_agr {L : List Int} {le l : List ByteArray} (hl : le.length = l.length) (h : ∀ k, hasB L k = false → le[k]? = l[k]?) : leftG L le = leftG L l := by
  refine List.ext_getElem? fun k => ?_
  by_cases hk : k < l.length
  · rw [left_get (List.getElem?_eq_getElem hk), left_get (List.getElem?_eq_getElem (by omega : k < le.length))]
    cases hh : hasB L k
    · have := h k hh
      rw [List.getElem?_eq_getElem hk, List.getElem?_eq_getElem (by omega : k < le.length)] at this
      rw [Option.some.inj this]
    · rfl
  · rw [List.getElem?_eq_none (by rw [left_len]; omega), List.getElem?_eq_none (by rw [left_len]; omega)]
theorem kn_agr {L : List Int} {j : Nat} {le l : List ByteArray} (hl : le.length = l.length) (h : ∀ k, hasB L (j + k) = false → le[k]? = l[k]?) : knF L j le = knF L j l := by
  induction l generalizing le j with
  | nil => obtain rfl := List.eq_nil_of_length_eq_zero hl; rfl
  | cons a r ih =>
    cases le with
    | nil => simp at hl
    | cons b t =>
      have ht := ih (le := t) (j := j + 1) (by simpa using hl) (fun k hk => by
        have := h (k + 1) (by rw [← hk]; congr 1; omega)
        simpa using this)
      unfold knF
      rw [ht]
      by_cases hh : hasB L j = true
      · rw [if_pos hh, if_pos hh]
      · rw [if_neg hh, if_neg hh]
        have := h 0 (by simpa using hh)
        simp at this
        rw [this]
theorem r2_agr {L : List Int} {le l : List ByteArray} {p q : ByteArray} (hl : le.length = l.length) (h : ∀ k, hasB L k = false → le[k]? = l[k]?) : r2E le L p q = r2E l L p q := by
  have h1 := ls_agr hl h
  have h2 : ktF le L [p, q] = ktF l L [p, q] := by
    unfold ktF; rw [kn_agr hl (fun k hk => h k (by rw [← hk]; congr 1; omega))]
  have h3 : rK le L p q = rK l L p q := by unfold rK; rw [hl, h2]
  have h4 : rX le L p q = rX l L p q := by unfold rX; rw [h3, h1]
  have h5 : rY le L p q = rY l L p q := by unfold rY; rw [h3, h1]
  unfold r2E
  rw [h1, h3, h4, h5, hl]
section
variable {e : Evd} {z : Dsc} {P m T k : Nat}
/-- a track that parity restores -/
theorem rpP_in {zs : Sec} {t : Nat} (h : rpP e zs P t = true) : (rsB (e.p.getD t .empty) (e.q.getD t .empty) (r2E (rpBE e zs (t * P) P) (rpLE e (t * P) P) (e.p.getD t .empty) (e.q.getD t .empty)) = true) ∧ ∀ j ∈ rpLE e (t * P) P, rpF e (t * P) (rpGE e zs P t) j = true := by
  unfold rpP rpA at h
  rw [Bool.and_eq_true, List.all_eq_true] at h
  exact h
theorem rs_in {p q : ByteArray} {G : List ByteArray × Int} (h : rsB p q G = true) : G.2 = 0 ∧ ¬ (p.size = 0 ∧ q.size = 0) := by
  unfold rsB at h
  rw [Bool.and_eq_true, beq_iff_eq] at h
  refine ⟨h.2, fun hh => ?_⟩
  rw [decide_eq_true hh.1, decide_eq_true hh.2] at h
  cases h.1
theorem par_mem (F : EvF e z P m T) {t : Nat} (ht : t < T) : ((e.p.getD t .empty).size = 0 ∨ (e.p.getD t .empty).size = m) ∧ ((e.q.getD t .empty).size = 0 ∨ (e.q.getD t .empty).size = m) := by
  have h1 := F.pl
  have h2 := F.ql
  rw [List.getD_eq_getElem?_getD, List.getElem?_eq_getElem (by omega : t < e.p.length), List.getD_eq_getElem?_getD, List.getElem?_eq_getElem (by omega : t < e.q.length)]
  exact ⟨F.ps _ (List.getElem_mem _), F.qs _ (List.getElem_mem _)⟩
theorem par_exact {zs : Sec} (F : EvF e z P m T) {t j : Nat} (ht : t < T) (hj : j < P) (hp : rpP e zs P t = true) (hok : rpOk e (t * P + j) = false) : ((rpGE e zs P t).getD j .empty).size = m := by
  obtain ⟨h1, _⟩ := rpP_in hp
  obtain ⟨h2, h3⟩ := rs_in h1
  have hmem : ((j : Nat) : Int) ∈ rpLE e (t * P) P := by
    unfold rpLE; exact flt_has hj (by rw [hok]; rfl)
  obtain ⟨h4, h5⟩ := r2_exact h2 h3 hmem
  rw [Int.toNat_natCast] at h4
  show ((r2E _ _ _ _).1.getD j .empty).size = m
  rw [h4]
  have g := grp h5
  obtain ⟨hp1, hq1⟩ := par_mem F ht
  by_cases hps : (e.p.getD t .empty).size = 0
  · have hqs : (e.q.getD t .empty).size ≠ 0 := fun hq => h3 ⟨hps, hq⟩
    rw [← g.q hqs]; exact hq1.resolve_left hqs
  · rw [← g.p hps]; exact hp1.resolve_left hps
theorem div_lt' (hk : k < T * P) (hP : 1 ≤ P) : k / P < T ∧ k % P < P ∧ k / P * P + k % P = k := by
  refine ⟨?_, Nat.mod_lt _ (by omega), by rw [Nat.mul_comm]; exact Nat.div_add_mod k P⟩
  rw [Nat.div_lt_iff_lt_mul (by omega)]; exact hk
/-- a repaired sector and its source -/
structure CeS (e : Evd) (m P k : Nat) (t : Sec) (o : Option Src) : Prop where
  yes : ∀ s, o = some s → t.state = 1 ∧ t.data.size = m ∧ fitB e.cr k t.data = true ∧ s.sector = k ∧ (1 ≤ s.kind ∧ s.kind ≤ 4) ∧ (0 ≤ s.dump ∧ s.dump ≤ 4) ∧ (s.dump = 0 ∨ s.kind = 1)
  no : o = none → t = zSec m
theorem ce_at (F : EvF e z P m T) (hk : k < T * P) : CeS e m P k (rpFin e (zSec m) P k) (rpK e (zSec m) P k) := by
  obtain ⟨hd, hmd, hdm⟩ := div_lt' hk F.p1
  unfold rpFin rpK
  cases hok : rpOk e k
  · simp only [Bool.false_eq_true, if_false]
    cases hp : rpP e (zSec m) P (k / P)
    · simp only [Bool.false_eq_true, if_false]
      exact ⟨fun s h => (nomatch h), fun _ => rfl⟩
    · simp only [if_true]
      refine ⟨fun s h => ?_, fun h => nomatch h⟩
      injection h with h
      subst h
      refine ⟨rfl, ?_, ?_, rfl, ⟨by show (1 : Int) ≤ 4; omega, by show (4 : Int) ≤ 4; omega⟩, ⟨by show (0 : Int) ≤ 0; omega, by show (0 : Int) ≤ 4; omega⟩, .inl rfl⟩
      · exact par_exact F hd hmd hp (by rw [hdm]; exact hok)
      · have hmem : ((k % P : Nat) : Int) ∈ rpLE e (k / P * P) P := by
          unfold rpLE; exact flt_has hmd (by rw [hdm, hok]; rfl)
        have hf := (rpP_in hp).2 _ hmem
        unfold rpF at hf
        rw [Int.toNat_natCast, hdm] at hf
        exact hf
  · simp only [if_true]
    obtain ⟨h1, h2, h3, h4, h5⟩ := fir_all F hk hok
    refine ⟨fun s h => ?_, fun h => nomatch h⟩
    injection h with h
    subst h
    exact ⟨rfl, h1, h2, fir_sector e k, ⟨h3.1, by omega⟩, h4, h5⟩
end
/-! lists over a range -/
theorem kin_rng {f : Nat → Option Src} (hf : ∀ k s, f k = some s → s.sector = k) (k : Nat) : ∀ n a, kinN (k : Int) ((List.range' a n).filterMap f) = if a ≤ k ∧ k < a + n then (match f k with | none => 0 | some s => s.kind) else 0 := by
  intro n
  induction n with
  | zero => intro a; rw [if_neg (by omega)]; rfl
  | succ n ih =>
    intro a
    rw [List.range'_succ]
    cases ha : f a with
    | none =>
      rw [List.filterMap_cons_none ha, ih]
      by_cases hka : k = a
      · subst hka
        rw [if_neg (by omega), if_pos (by omega), ha]
      · by_cases h : a + 1 ≤ k ∧ k < a + 1 + n
        · rw [if_pos h, if_pos (by omega)]
        · rw [if_neg h, if_neg (by omega)]
    | some s =>
      rw [List.filterMap_cons_some ha]
      have hs := hf a s ha
      unfold kinN
      by_cases hka : k = a
      · subst hka
        rw [if_pos (by rw [hs]; simp), if_pos (by omega), ha]
      · rw [if_neg (by rw [hs, beq_iff_eq]; omega), ih]
        by_cases h : a + 1 ≤ k ∧ k < a + 1 + n
        · rw [if_pos h, if_pos (by omega)]
        · rw [if_neg h, if_neg (by omega)]
theorem cert_rng {f : Nat → Option Src} {M : Nat} (hM : M ≤ 128) (hf : ∀ k s, k < M → f k = some s → s.sector = k ∧ (1 ≤ s.kind ∧ s.kind ≤ 4) ∧ (0 ≤ s.dump ∧ s.dump ≤ 4) ∧ (s.dump = 0 ∨ s.kind = 1)) : ∀ (n a : Nat), a + n ≤ M → ∀ last : Int, last < (a : Int) → certFrom last ((List.range' a n).filterMap f) = true := by
  intro n
  induction n with
  | zero => intro a _ last _; rfl
  | succ n ih =>
    intro a ha last hl
    rw [List.range'_succ]
    cases hfa : f a with
    | none => rw [List.filterMap_cons_none hfa]; exact ih (a + 1) (by omega) last (by omega)
    | some s =>
      rw [List.filterMap_cons_some hfa, certFrom, Bool.and_eq_true]
      obtain ⟨h1, h2, h3, h4⟩ := hf a s (by omega) hfa
      exact ⟨srcOk_iff.2 ⟨h2, by omega, h3, h4⟩, ih (a + 1) (by omega) _ (by omega)⟩
theorem cnt_rng {f : Nat → Option Src} {Q : Nat → Bool} : ∀ {n : Nat}, (∀ k, k < n → Q k = (f k).isNone) → ((List.range n).filter Q).length + ((List.range n).filterMap f).length = n := by
  intro n
  induction n with
  | zero => intro _; rfl
  | succ n ih =>
    intro h
    have h1 := ih (fun k hk => h k (by omega))
    have h2 := h n (by omega)
    rw [List.range_succ, List.filter_append, List.filterMap_append, List.length_append, List.length_append]
    cases hf : f n with
    | none =>
      rw [hf] at h2
      rw [List.filterMap_cons_none hf, List.filter_cons_of_pos (by rw [h2]; rfl)]
      simp; omega
    | some s =>
      rw [hf] at h2
      rw [List.filterMap_cons_some hf, List.filter_cons_of_neg (by rw [h2]; simp)]
      simp; omega
theorem unc_nil {l : List Src} : ∀ {r : List Sec} {k : Nat}, (∀ j s, r[j]? = some s → uncB l s (k + j) = false) → uncN l k r = [] := by
  intro r
  induction r with
  | nil => intro k _; rfl
  | cons a r ih =>
    intro k h
    have h0 := h 0 a rfl
    unfold uncN
    rw [if_neg (by rw [Nat.add_zero] at h0; rw [h0]; decide)]
    exact ih (fun j s hj => by have := h (j + 1) s (by simpa using hj); rw [show k + 1 + j = k + (j + 1) by omega]; exact this)
/-! the repaired disc and its certificate -/
section
variable {e : Evd} {z : Dsc} {P m T N : Nat}
theorem ce_d (hev : evOk e = true) (F : RdF e z P m T N) : rdD e = ⟨z.cyl, z.heads, (P : Int), z.size, rpS e (zSec m) P N N N⟩ := by
  unfold rdD; rw [if_pos hev, F.hz, F.hs, F.hp]
theorem ce_l (hev : evOk e = true) (F : RdF e z P m T N) : rdY e = (List.range' 0 N).filterMap (rpK e (zSec m) P) := by
  unfold rdY; rw [if_pos hev, F.hx]; unfold rpY; rw [List.range_eq_range']
theorem ce_sec (F : RdF e z P m T N) {k : Nat} (hk : k < N) : (rpS e (zSec m) P N N N)[k]? = some (rpFin e (zSec m) P k) ∧ CeS e m P k (rpFin e (zSec m) P k) (rpK e (zSec m) P k) := by
  refine ⟨?_, ce_at F.f (by rw [F.hn]; exact hk)⟩
  rw [rpS_at hk]; unfold rpSt; rw [if_pos hk]
theorem ce_kin (hev : evOk e = true) (F : RdF e z P m T N) {k : Nat} (hk : k < N) : kinN (k : Int) (rdY e) = match rpK e (zSec m) P k with | none => 0 | some s => s.kind := by
  rw [ce_l hev F, kin_rng (fun k s h => rpK_sector h), if_pos (by omega)]
theorem ce_cert (hev : evOk e = true) (F : RdF e z P m T N) : certOk (rdY e) = true := by
  have hle := F.le
  have hall : ∀ k s, k < N → rpK e (zSec m) P k = some s → s.sector = k ∧ (1 ≤ s.kind ∧ s.kind ≤ 4) ∧ (0 ≤ s.dump ∧ s.dump ≤ 4) ∧ (s.dump = 0 ∨ s.kind = 1) := fun k s hk h => by
    obtain ⟨_, _, _, h4, h5, h6, h7⟩ := (ce_sec F hk).2.yes s h
    exact ⟨h4, h5, h6, h7⟩
  unfold certOk
  rw [ce_l hev F]
  exact cert_rng hle hall N 0 (by omega) _ (by show (-1 : Int) < ((0 : Nat) : Int); omega)
theorem zsec_ok (m : Nat) : secOk (zSec m) m = true := by
  rw [secOk_eq (s := zSec m) (by show inB 3 1 4 = true; decide) (by show (strN _).size = m; rw [strN_size, List.length_replicate]) rfl]
  show ((strN (List.replicate m 0)).toList == (strN (List.replicate m 0)).toList) = true
  simp
theorem ce_disc (hev : evOk e = true) (F : RdF e z P m T N) : discOk (rdD e) = true := by
  have hg := disc_geo F.f.zok
  have hz := disc_secs F.f.zok
  rw [ce_d hev F, dk_yes (by show geoB z.cyl z.heads (P : Int) z.size = true; rw [← F.hp]; exact hg) (by show (((rpS e (zSec m) P N N N).length : Int) == z.cyl * z.heads * (P : Int)) = true; rw [rpS_len, ← F.hp, ← hz.1, F.hl]; simp)]
  rw [List.all_eq_true]
  intro t ht
  obtain ⟨k, hk⟩ := List.getElem?_of_mem ht
  have hkN : k < N := by have := (List.getElem?_eq_some_iff.1 hk).1; rwa [rpS_len] at this
  obtain ⟨h1, h2⟩ := ce_sec F hkN
  replace hk : (rpS e (zSec m) P N N N)[k]? = some t := hk
  rw [h1] at hk
  injection hk with hk
  have hm : szN z.size = m := F.f.siz.symm
  show secOk t (szN z.size) = true
  rw [hm, ← hk]
  cases ho : rpK e (zSec m) P k with
  | none => rw [h2.no ho]; exact zsec_ok m
  | some s =>
    obtain ⟨g1, g2, _⟩ := h2.yes s ho
    exact secOk_yes (by rw [g1]; decide) g2 (by rw [g1]; decide)
theorem ce_ask (hev : evOk e = true) (F : RdF e z P m T N) : askB e (rdD e) (rdY e) = true := by
  unfold askB
  have hz : e.ds.headD default = z := F.hz
  rw [hev, ce_disc hev F, ce_cert hev F, hz, ce_d hev F]
  show ((((z.cyl == z.cyl) && (z.heads == z.heads)) && ((P : Int) == z.per)) && (z.size == z.size)) = true
  rw [F.hp]; simp
theorem ce_cov (hev : evOk e = true) (F : RdF e z P m T N) {k : Nat} (hk : k < N) : covB (rdD e) (rdY e) k = true := by
  obtain ⟨h1, h2⟩ := ce_sec F hk
  rw [cov_at (s := rpFin e (zSec m) P k) (by rw [ce_d hev F]; exact h1), ce_kin hev F hk]
  unfold cvS
  cases ho : rpK e (zSec m) P k with
  | none => rw [h2.no ho]; rfl
  | some s =>
    obtain ⟨g1, _, _, _, g5, _⟩ := h2.yes s ho
    have : (s.kind != 0) = true := by rw [bne_iff_ne]; omega
    rw [g1]
    show (true && ((s.kind != 0) == true)) = true
    rw [this]; rfl
theorem ce_unc (hev : evOk e = true) (F : RdF e z P m T N) : uncE (rdD e) (rdY e) = ([], 0) := by
  rw [unc_ok (ce_disc hev F) (ce_cert hev F), unc_nil]
  intro j s hs
  rw [Nat.zero_add]
  have hs' : (rpS e (zSec m) P N N N)[j]? = some s := by rw [ce_d hev F] at hs; exact hs
  have hj : j < N := by have := (List.getElem?_eq_some_iff.1 hs').1; rwa [rpS_len] at this
  obtain ⟨h1, h2⟩ := ce_sec F hj
  rw [h1] at hs'
  injection hs' with hs'
  cases ho : rpK e (zSec m) P j with
  | none => exact ub1 (by rw [← hs', h2.no ho]; rfl)
  | some x =>
    obtain ⟨_, _, _, _, g5, _⟩ := h2.yes x ho
    refine ub2 ?_
    rw [ce_kin hev F hj, ho, beq_eq_false_iff_ne]
    show x.kind ≠ 0
    omega
theorem ce_count (hev : evOk e = true) (F : RdF e z P m T N) : (rpLo e).length + (rdY e).length = N := by
  have h1 : rpLo e = fltN (rdM e) N := by unfold rpLo; rw [if_pos hev, F.hz, F.hl]
  rw [h1, ce_l hev F, ← List.range_eq_range']
  unfold fltN
  rw [List.length_map]
  refine cnt_rng fun k hk => ?_
  obtain ⟨g1, g2⟩ := ce_sec F hk
  unfold rdM
  rw [F.hs, List.getD_eq_getElem?_getD, g1]
  show ((rpFin e (zSec m) P k).state == 3) = _
  cases ho : rpK e (zSec m) P k with
  | none => rw [g2.no ho]; rfl
  | some s => rw [(g2.yes s ho).1]; rfl
/-- a track that parity restored, as the check looks at it -/
theorem ce_par (hev : evOk e = true) (F : RdF e z P m T N) {t : Nat} (ht : t < T) (hp : rpP e (zSec m) P t = true) : parC e (rdD e) (rdY e) t = true := by
  have hP1 := F.f.p1
  have hoN : t * P + P ≤ N := by
    have h1 := Nat.mul_le_mul_right P (show t + 1 ≤ T by omega)
    rw [Nat.add_mul, Nat.one_mul, F.hn] at h1
    exact h1
  have hdiv : ∀ j, j < P → (t * P + j) / P = t ∧ (t * P + j) % P = j := fun j hj => by
    obtain ⟨h1, h2⟩ := rp_div (show t * P ≤ t * P + j by omega) (show t * P + j < t * P + P by omega)
    exact ⟨h1, by omega⟩
  have hper : (rdD e).per.toNat = P := by rw [ce_d hev F]; exact Int.toNat_natCast P
  have hkin : ∀ j, j < P → (kinN ((t * P + j : Nat) : Int) (rdY e) == 4) = !rpOk e (t * P + j) ∧ (kinN ((t * P + j : Nat) : Int) (rdY e) == 0) = false := fun j hj => by
    rw [ce_kin hev F (by omega)]
    unfold rpK
    cases hok : rpOk e (t * P + j)
    · simp only [Bool.false_eq_true, if_false]
      rw [(hdiv j hj).1, if_pos hp]
      exact ⟨rfl, rfl⟩
    · simp only [if_true]
      obtain ⟨_, _, h3, _⟩ := fir_all F.f (show t * P + j < T * P by rw [F.hn]; omega) hok
      exact ⟨by show ((firE e (t * P + j)).1.kind == 4) = false; rw [beq_eq_false_iff_ne]; omega, by show ((firE e (t * P + j)).1.kind == 0) = false; rw [beq_eq_false_iff_ne]; omega⟩
  have hlos : losF (rdY e) (t * P) P = rpLE e (t * P) P := by
    unfold losF rpLE fltN
    congr 1
    refine List.filter_congr fun j hj => ?_
    have hj' := List.mem_range.1 hj
    unfold losB
    rw [(hkin j hj').1, (hkin j hj').2, Bool.or_false]
  have hblk : blkF (rdD e) (t * P) P = (List.range P).map fun j => (rpFin e (zSec m) P (t * P + j)).data := by
    rw [ce_d hev F]
    show rpB (rpS e (zSec m) P N N N) (t * P) P = _
    rw [rpB_rng (by rw [rpS_len]; exact hoN)]
    refine List.map_congr_left fun j hj => ?_
    have hj' := List.mem_range.1 hj
    rw [List.getD_eq_getElem?_getD, (ce_sec F (show t * P + j < N by omega)).1]; rfl
  have hagr : ∀ p q, r2E (blkF (rdD e) (t * P) P) (rpLE e (t * P) P) p q = r2E (rpBE e (zSec m) (t * P) P) (rpLE e (t * P) P) p q := fun p q => by
    rw [hblk]
    refine r2_agr (by unfold rpBE; simp) fun k hk => ?_
    unfold rpBE
    rw [List.getElem?_map, List.getElem?_map]
    by_cases hkP : k < P
    · rw [List.getElem?_range hkP]
      show some _ = some _
      have hok : rpOk e (t * P + k) = true := by
        cases hok : rpOk e (t * P + k) with
        | true => rfl
        | false =>
          have hmem : ((k : Nat) : Int) ∈ rpLE e (t * P) P := by unfold rpLE; exact flt_has hkP (by rw [hok]; rfl)
          have : hasB (rpLE e (t * P) P) k = true := by unfold hasB; rw [List.any_eq_true]; exact ⟨_, hmem, by simp⟩
          rw [hk] at this; cases this
      show some (rpFin e (zSec m) P (t * P + k)).data = some (rpOne e (zSec m) (t * P + k)).data
      rw [rpFin_ok hok]
    · rw [List.getElem?_eq_none (by simp; omega : (List.range P).length ≤ k)]; rfl
  obtain ⟨h1, _⟩ := rpP_in hp
  obtain ⟨h2, _⟩ := rs_in h1
  unfold parC
  rw [hper, hlos, hagr, h2]
  show (true && _) = true
  rw [Bool.true_and, List.all_eq_true]
  intro j hj
  have hj' := List.mem_range.1 hj
  rw [(hkin j hj').1, hblk]
  cases hok : rpOk e (t * P + j)
  · show (false || _) = true
    rw [Bool.false_or, List.getD_eq_getElem?_getD, List.getD_eq_getElem?_getD (l := (List.range P).map _), List.getElem?_map, List.getElem?_range hj', ← List.getD_eq_getElem?_getD]
    show ((rpGE e (zSec m) P t).getD j .empty).toList == (rpFin e (zSec m) P (t * P + j)).data.toList
    unfold rpFin
    rw [hok, (hdiv j hj').1, (hdiv j hj').2, if_pos hp]
    simp [rpG]
  · rfl
theorem ce_src (hev : evOk e = true) (F : RdF e z P m T N) {s : Src} (hs : s ∈ rdY e) : srcC e (rdD e) (rdY e) s = true := by
  rw [ce_l hev F] at hs
  obtain ⟨k, hk, hs⟩ := List.mem_filterMap.1 hs
  have hkN : k < N := by have := List.mem_range'_1.1 hk; omega
  have hkT : k < T * P := by rw [F.hn]; exact hkN
  obtain ⟨g1, g2⟩ := ce_sec F hkN
  obtain ⟨q1, q2, q3, q4, _⟩ := g2.yes s hs
  obtain ⟨hd, hmd, hdm⟩ := div_lt' hkT F.f.p1
  have hsec : (rdD e).secs[k]? = some (rpFin e (zSec m) P k) := by rw [ce_d hev F]; exact g1
  cases hok : rpOk e k
  · unfold rpK at hs
    rw [hok] at hs
    simp only [Bool.false_eq_true, if_false] at hs
    cases hp : rpP e (zSec m) P (k / P)
    · rw [hp] at hs; simp at hs
    · rw [hp] at hs
      simp only [if_true] at hs
      injection hs with hs
      subst hs
      have hpar := ce_par hev F hd hp
      have hper : (rdD e).per.toNat = P := by rw [ce_d hev F]; exact Int.toNat_natCast P
      unfold srcC
      show (match (rdD e).secs[((k : Nat) : Int).toNat]? with | none => false | some x => x.state == 1 && (fitB e.cr ((k : Nat) : Int).toNat x.data && _)) = true
      rw [Int.toNat_natCast, hsec]
      show ((rpFin e (zSec m) P k).state == 1 && (fitB e.cr k (rpFin e (zSec m) P k).data && (if (4 : Int) = 1 then _ else if (4 : Int) = 2 then _ else if (4 : Int) = 3 then _ else parC e (rdD e) (rdY e) (k / (rdD e).per.toNat)))) = true
      rw [q1, q3, if_neg (by decide), if_neg (by decide), if_neg (by decide), hper, hpar]; rfl
  · unfold rpK at hs
    rw [if_pos hok] at hs
    injection hs with hs
    subst hs
    refine fir_src F.f hkT hok ?_
    rw [hsec]
    unfold rpFin
    rw [if_pos hok]
theorem ce_chk (hev : evOk e = true) (F : RdF e z P m T N) : chkC e (rdD e) (rdY e) = true :=
  ck_yes (ce_ask hev F) (fun k hk => ce_cov hev F (by rw [ce_d hev F] at hk; have : k < (rpS e (zSec m) P N N N).length := hk; rwa [rpS_len] at this)) (fun i s hs => ce_src hev F (List.mem_of_getElem? hs))
end
end Go.Proofs.YtddihmpiaemadaaGreatDoor
