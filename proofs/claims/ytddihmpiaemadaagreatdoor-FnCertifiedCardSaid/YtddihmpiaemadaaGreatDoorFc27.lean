/- A repaired disc: the plain law. -/
import Derived.Test.YtddihmpiaemadaaGreatDoorFc18
import Derived.Test.YtddihmpiaemadaaGreatDoorFc25
import Derived.Test.YtddihmpiaemadaaGreatDoorFc26
namespace Go.Proofs.YtddihmpiaemadaaGreatDoor
set_option linter.unusedVariables false
set_option linter.unusedSimpArgs false
open Go.RowKit
def rpOk (e : Evd) (k : Nat) : Bool := (firE e k).2.2
def rpG (b : ByteArray) : Sec := ⟨b, 1⟩
def rpN : Sec := ⟨.empty, 0⟩
/-- a sector by its first source -/
def rpOne (e : Evd) (z : Sec) (k : Nat) : Sec := if rpOk e k = true then rpG (firE e k).2.1 else z
/-- the blocks of a track -/
def rpB (S : List Sec) (o P : Nat) : List ByteArray := ((S.drop o).take P).map Sec.data
def rpL (S : List Sec) (o : Nat) (j : Nat) : Bool := (S.getD (o + j) rpN).state == 3
def rpR (e : Evd) (t : Nat) (bl : List ByteArray) (L : List Int) : List ByteArray × Int := r2E bl L (e.p.getD t .empty) (e.q.getD t .empty)
def rpF (e : Evd) (o : Nat) (G : List ByteArray) (j : Int) : Bool := fitB e.cr (o + j.toNat) (G.getD j.toNat .empty)
def rpC (e : Evd) (t : Nat) (bl : List ByteArray) (L : List Int) : Bool := rsB (e.p.getD t .empty) (e.q.getD t .empty) (rpR e t bl L)
def rpA (e : Evd) (t o : Nat) (bl : List ByteArray) (L : List Int) : Bool := rpC e t bl L && L.all (rpF e o (rpR e t bl L).1)
def rpPut (o : Nat) (G : List ByteArray) (S : List Sec) (j : Int) : List Sec := S.set (o + j.toNat) (rpG (G.getD j.toNat .empty))
def rpSet (o : Nat) (G : List ByteArray) (S : List Sec) (L : List Int) : List Sec := L.foldl (rpPut o G) S
def rpSrc (o : Nat) (j : Int) : Src := ⟨4, (o : Int) + j, 0⟩
def rpAdd (e : Evd) (S : List Sec) (t o P : Nat) (L : List Int) : List Sec × List Src :=
  if rpA e t o (rpB S o P) L = true then (rpSet o (rpR e t (rpB S o P) L).1 S L, L.map (rpSrc o)) else (S, [])
/-! the same by sectors -/
def rpLE (e : Evd) (o P : Nat) : List Int := fltN (fun j => !rpOk e (o + j)) P
def rpBE (e : Evd) (z : Sec) (o P : Nat) : List ByteArray := (List.range P).map fun j => (rpOne e z (o + j)).data
def rpP (e : Evd) (z : Sec) (P t : Nat) : Bool := rpA e t (t * P) (rpBE e z (t * P) P) (rpLE e (t * P) P)
def rpGE (e : Evd) (z : Sec) (P t : Nat) : List ByteArray := (rpR e t (rpBE e z (t * P) P) (rpLE e (t * P) P)).1
def rpFin (e : Evd) (z : Sec) (P k : Nat) : Sec := if rpOk e k = true then rpG (firE e k).2.1 else if rpP e z P (k / P) = true then rpG ((rpGE e z P (k / P)).getD (k % P) .empty) else z
def rpK (e : Evd) (z : Sec) (P k : Nat) : Option Src := if rpOk e k = true then some (firE e k).1 else if rpP e z P (k / P) = true then some ⟨4, (k : Int), 0⟩ else none
def rpSt (e : Evd) (z : Sec) (P u v k : Nat) : Sec := if k < u then rpFin e z P k else if k < v then rpOne e z k else z
def rpS (e : Evd) (z : Sec) (P N u v : Nat) : List Sec := (List.range N).map (rpSt e z P u v)
section
variable {e : Evd} {z : Sec} {P N u v : Nat}
theorem rpS_len : (rpS e z P N u v).length = N := by unfold rpS; simp
theorem rpS_at {k : Nat} (h : k < N) : (rpS e z P N u v)[k]? = some (rpSt e z P u v k) := by
  unfold rpS; rw [List.getElem?_map, List.getElem?_range h]; rfl
theorem rpS_none {k : Nat} (h : ¬ k < N) : (rpS e z P N u v)[k]? = none := List.getElem?_eq_none (by rw [rpS_len]; omega)
theorem rpS_zero : rpS e z P N 0 0 = List.replicate N z := by
  apply List.ext_getElem?
  intro k
  by_cases h : k < N
  · rw [rpS_at h, List.getElem?_replicate, if_pos h]; rfl
  · rw [rpS_none h, List.getElem?_replicate, if_neg h]
theorem rpS_ext {u' v' : Nat} (h : ∀ k, k < N → rpSt e z P u v k = rpSt e z P u' v' k) : rpS e z P N u v = rpS e z P N u' v' := by
  apply List.ext_getElem?
  intro k
  by_cases hk : k < N
  · rw [rpS_at hk, rpS_at hk, h k hk]
  · rw [rpS_none hk, rpS_none hk]
theorem rpS_yes {j : Nat} (hu : u ≤ j) (_hj : j < N) (h : rpOk e j = true) : (rpS e z P N u j).set j (rpG (firE e j).2.1) = rpS e z P N u (j + 1) := by
  apply List.ext_getElem?
  intro k
  rw [List.getElem?_set]
  by_cases hk : k < N
  · rw [rpS_at hk]
    by_cases hjk : j = k
    · subst hjk
      rw [if_pos rfl, if_pos (by rw [rpS_len]; exact hk), rpS_at hk]
      unfold rpSt rpOne
      rw [if_neg (by omega), if_pos (by omega), if_pos h]
    · rw [if_neg hjk, rpS_at hk]
      unfold rpSt
      by_cases hku : k < u
      · rw [if_pos hku, if_pos hku]
      · rw [if_neg hku, if_neg hku]
        by_cases hkj : k < j
        · rw [if_pos hkj, if_pos (by omega)]
        · rw [if_neg hkj, if_neg (by omega)]
  · rw [rpS_none hk, rpS_none hk, if_neg (by omega)]
theorem rpS_no {j : Nat} (hu : u ≤ j) (h : rpOk e j = false) : rpS e z P N u j = rpS e z P N u (j + 1) := by
  refine rpS_ext fun k _ => ?_
  unfold rpSt
  by_cases hku : k < u
  · rw [if_pos hku, if_pos hku]
  · rw [if_neg hku, if_neg hku]
    by_cases hkj : k < j
    · rw [if_pos hkj, if_pos (by omega)]
    · rw [if_neg hkj]
      by_cases hk2 : k < j + 1
      · obtain rfl : k = j := by omega
        rw [if_pos hk2]; unfold rpOne; rw [if_neg (by rw [h]; decide)]
      · rw [if_neg hk2]
theorem rpB_rng {S : List Sec} {o : Nat} (h : o + P ≤ S.length) : rpB S o P = (List.range P).map fun j => (S.getD (o + j) rpN).data := by
  apply List.ext_getElem?
  intro j
  unfold rpB
  rw [List.getElem?_map, List.getElem?_map, List.getElem?_take]
  by_cases hj : j < P
  · rw [if_pos hj, List.getElem?_drop, List.getElem?_range hj, List.getElem?_eq_getElem (show o + j < S.length by omega)]
    show some _ = some (S.getD (o + j) rpN).data
    rw [List.getD_eq_getElem?_getD, List.getElem?_eq_getElem (show o + j < S.length by omega)]; rfl
  · rw [if_neg hj, List.getElem?_eq_none (by simp; omega : (List.range P).length ≤ j)]; rfl
theorem rpSt_track {t j : Nat} (hj : j < P) (hv : t * P + P ≤ v) : rpSt e z P (t * P) v (t * P + j) = rpOne e z (t * P + j) := by
  unfold rpSt; rw [if_neg (by omega), if_pos (by omega)]
theorem rpS_getD {k : Nat} (h : k < N) : (rpS e z P N u v).getD k rpN = rpSt e z P u v k := by
  rw [List.getD_eq_getElem?_getD, rpS_at h]; rfl
theorem rpS_blk {t : Nat} (hv : t * P + P ≤ v) (hN : t * P + P ≤ N) : rpB (rpS e z P N (t * P) v) (t * P) P = rpBE e z (t * P) P := by
  rw [rpB_rng (by rw [rpS_len]; exact hN)]
  unfold rpBE
  refine List.map_congr_left fun j hj => ?_
  have hj' := List.mem_range.1 hj
  rw [rpS_getD (by omega), rpSt_track hj' hv]
theorem rpOne_st (hz : z.state = 3) (k : Nat) : ((rpOne e z k).state == 3) = !rpOk e k := by
  unfold rpOne
  cases h : rpOk e k
  · rw [if_neg (by decide), hz]; rfl
  · rw [if_pos rfl]; rfl
theorem rpS_lost {t : Nat} (hz : z.state = 3) (hv : t * P + P ≤ v) (hN : t * P + P ≤ N) : fltN (rpL (rpS e z P N (t * P) v) (t * P)) P = rpLE e (t * P) P := by
  unfold fltN rpLE fltN
  congr 1
  refine List.filter_congr fun j hj => ?_
  have hj' := List.mem_range.1 hj
  unfold rpL
  rw [rpS_getD (by omega), rpSt_track hj' hv, rpOne_st hz]
theorem rpSet_len (o : Nat) (G : List ByteArray) (S : List Sec) (L : List Int) : (rpSet o G S L).length = S.length := by
  induction L generalizing S with
  | nil => rfl
  | cons a r ih => show (rpSet o G (rpPut o G S a) r).length = _; rw [ih]; unfold rpPut; simp
theorem rpSet_at (o : Nat) (G : List ByteArray) (S : List Sec) (L : List Int) (k : Nat) (hk : k < S.length) : (rpSet o G S L)[k]? = if o ≤ k ∧ (∃ j ∈ L, j.toNat = k - o) then some (rpG (G.getD (k - o) .empty)) else S[k]? := by
  induction L generalizing S with
  | nil => show S[k]? = _; rw [if_neg (by rintro ⟨_, j, hj, _⟩; cases hj)]
  | cons a r ih =>
    show (rpSet o G (rpPut o G S a) r)[k]? = _
    rw [ih _ (by unfold rpPut; simpa using hk)]
    by_cases h1 : o ≤ k ∧ ∃ j ∈ r, j.toNat = k - o
    · obtain ⟨h0, j, hj, hjk⟩ := h1
      rw [if_pos ⟨h0, j, hj, hjk⟩, if_pos ⟨h0, j, List.mem_cons_of_mem _ hj, hjk⟩]
    · rw [if_neg h1]
      unfold rpPut
      rw [List.getElem?_set]
      by_cases h2 : o + a.toNat = k
      · rw [if_pos h2, if_pos (by omega), if_pos ⟨by omega, a, List.mem_cons_self, by omega⟩]
        congr 2
        rw [show a.toNat = k - o by omega]
      · rw [if_neg h2, if_neg]
        rintro ⟨h0, j, hj, hjk⟩
        rcases List.mem_cons.1 hj with rfl | hj
        · omega
        · exact h1 ⟨h0, j, hj, hjk⟩
theorem rpLE_mem {o k : Nat} (hk : o ≤ k) : (∃ j ∈ rpLE e o P, j.toNat = k - o) ↔ k < o + P ∧ rpOk e k = false := by
  constructor
  · rintro ⟨j, hj, hjk⟩
    obtain ⟨m, rfl, hm, hp⟩ := flt_mem hj
    have : o + m = k := by simp at hjk; omega
    rw [this] at hp
    exact ⟨by omega, by simpa using hp⟩
  · rintro ⟨h1, h2⟩
    exact ⟨((k - o : Nat) : Int), flt_has (by omega) (by rw [show o + (k - o) = k by omega, h2]; rfl), by simp⟩
theorem rpFin_ok {k : Nat} (h : rpOk e k = true) : rpFin e z P k = rpOne e z k := by unfold rpFin rpOne; rw [if_pos h, if_pos h]
theorem rp_div {t k : Nat} (h1 : t * P ≤ k) (h2 : k < t * P + P) : k / P = t ∧ k % P = k - t * P := by
  have hP : 0 < P := by omega
  have hd : k / P = t := by
    rw [Nat.div_eq_iff hP]
    constructor <;> omega
  have := Nat.div_add_mod k P
  rw [hd, Nat.mul_comm] at this
  exact ⟨hd, by omega⟩
/-- the sectors of a track by its parity -/
theorem rpS_add {t : Nat} (hv : t * P + P ≤ v) (hN : t * P + P ≤ N) : rpAdd e (rpS e z P N (t * P) v) t (t * P) P (rpLE e (t * P) P) = (rpS e z P N (t * P + P) v, if rpP e z P t = true then (rpLE e (t * P) P).map (rpSrc (t * P)) else []) := by
  have e0 : rpA e t (t * P) (rpB (rpS e z P N (t * P) v) (t * P) P) (rpLE e (t * P) P) = rpP e z P t := by rw [rpS_blk hv hN]; rfl
  have e1 : (rpR e t (rpB (rpS e z P N (t * P) v) (t * P) P) (rpLE e (t * P) P)).1 = rpGE e z P t := by rw [rpS_blk hv hN]; rfl
  unfold rpAdd
  rw [e0, e1]
  by_cases hp : rpP e z P t = true
  · rw [if_pos hp, if_pos hp]
    congr 1
    apply List.ext_getElem?
    intro k
    by_cases hk : k < N
    · rw [rpSet_at _ _ _ _ _ (by rw [rpS_len]; exact hk), rpS_at hk, rpS_at hk]
      by_cases h1 : t * P ≤ k
      · have hM := rpLE_mem (e := e) (P := P) h1
        by_cases h2 : k < t * P + P
        · obtain ⟨d1, d2⟩ := rp_div h1 h2
          cases hok : rpOk e k
          · rw [if_pos ⟨h1, hM.2 ⟨h2, hok⟩⟩]
            unfold rpSt
            rw [if_pos h2]
            unfold rpFin
            rw [if_neg (by rw [hok]; decide), d1, if_pos hp, d2]
          · rw [if_neg (by rintro ⟨_, h⟩; have := (hM.1 h).2; rw [hok] at this; cases this)]
            unfold rpSt
            rw [if_neg (by omega), if_pos (by omega), if_pos h2, rpFin_ok hok]
        · rw [if_neg (fun h => h2 (hM.1 h.2).1)]
          unfold rpSt
          rw [if_neg (by omega), if_neg h2]
      · rw [if_neg (fun h => h1 h.1)]
        unfold rpSt
        rw [if_pos (by omega), if_pos (by omega)]
    · rw [List.getElem?_eq_none (by rw [rpSet_len, rpS_len]; omega), rpS_none hk]
  · rw [if_neg hp, if_neg hp]
    congr 1
    refine rpS_ext fun k _ => ?_
    unfold rpSt
    by_cases h1 : k < t * P
    · rw [if_pos h1, if_pos (by omega)]
    · rw [if_neg h1]
      by_cases h2 : k < t * P + P
      · obtain ⟨d1, d2⟩ := rp_div (show t * P ≤ k by omega) h2
        rw [if_pos (by omega), if_pos h2]
        unfold rpFin rpOne
        rw [d1]
        cases hok : rpOk e k
        · rw [if_neg (by decide), if_neg (by decide), if_neg hp]
        · rw [if_pos rfl, if_pos rfl]
      · rw [if_neg h2]
/-! sources -/
def rpK1 (e : Evd) (k : Nat) : Option Src := if rpOk e k = true then some (firE e k).1 else none
def rpPS (e : Evd) (z : Sec) (P t : Nat) : List Src := if rpP e z P t = true then (rpLE e (t * P) P).map (rpSrc (t * P)) else []
/-- the sources up to sector n by first sources -/
def rpX (e : Evd) (n : Nat) : List Src := (List.range n).filterMap (rpK1 e)
def rpXT (e : Evd) (z : Sec) (P N t : Nat) : List Src := rpX e N ++ (List.range t).flatMap (rpPS e z P)
/-- all sources -/
def rpY (e : Evd) (z : Sec) (P n : Nat) : List Src := (List.range n).filterMap (rpK e z P)
theorem fir_sector (e : Evd) (k : Nat) : (firE e k).1.sector = k := by
  unfold firE
  split
  · rfl
  · split <;> rfl
theorem rpK_sector {k : Nat} {s : Src} (h : rpK e z P k = some s) : s.sector = k := by
  unfold rpK at h
  split at h
  · injection h with h; rw [← h, fir_sector]
  · split at h
    · injection h with h; rw [← h]
    · cases h
theorem rpX_yes {n : Nat} {acc : List Src} (H : Hid (acc = rpX e n)) (h : rpOk e n = true) : Hid (acc ++ [(firE e n).1] = rpX e (n + 1)) :=
  Lib.hid (by rw [H.out]; unfold rpX; rw [List.range_succ, List.filterMap_append, List.filterMap_cons_some (show rpK1 e n = some (firE e n).1 by unfold rpK1; rw [if_pos h])]; rfl)
theorem rpX_no {n : Nat} {acc : List Src} (H : Hid (acc = rpX e n)) (h : rpOk e n = false) : Hid (acc = rpX e (n + 1)) :=
  Lib.hid (by rw [H.out]; unfold rpX; rw [List.range_succ, List.filterMap_append, List.filterMap_cons_none (show rpK1 e n = none by unfold rpK1; rw [if_neg (by rw [h]; decide)])]; simp)
theorem rpXT_next {t : Nat} {acc : List Src} (H : Hid (acc = rpXT e z P N t)) : Hid (acc ++ rpPS e z P t = rpXT e z P N (t + 1)) :=
  Lib.hid (by rw [H.out]; unfold rpXT; rw [List.range_succ, List.flatMap_append, List.append_assoc]; simp)
theorem rpY_srt (n : Nat) : SrtL (rpY e z P n) := by
  unfold SrtL
  induction n with
  | zero => exact List.Pairwise.nil
  | succ n ih =>
    unfold rpY at ih ⊢
    rw [List.range_succ, List.filterMap_append, List.pairwise_append]
    refine ⟨ih, ?_, fun a ha b hb => ?_⟩
    · cases h : rpK e z P n with
      | none => rw [List.filterMap_cons_none h]; exact List.Pairwise.nil
      | some s => rw [List.filterMap_cons_some h]; exact List.pairwise_singleton _ _
    · obtain ⟨i, hi, ha⟩ := List.mem_filterMap.1 ha
      obtain ⟨j, hj, hb⟩ := List.mem_filterMap.1 hb
      rw [rpK_sector ha, rpK_sector hb, List.mem_singleton.1 hj]
      have := List.mem_range.1 hi
      omega
theorem srt_ne {l : List Src} (h : SrtL l) : l.Pairwise fun a b => a.sector ≠ b.sector := h.imp fun h => by omega
theorem fsr_ne {Q : Nat → Bool} (P o : Nat) : ((fltN Q P).map (rpSrc o)).Pairwise fun a b => a.sector ≠ b.sector := by
  unfold fltN
  rw [List.map_map, List.pairwise_map]
  refine List.Pairwise.filter _ ?_
  have := List.pairwise_lt_range (n := P)
  exact this.imp fun {a b} h => by show (o : Int) + (a : Int) ≠ (o : Int) + (b : Int); omega
theorem rpPS_mem {t : Nat} {s : Src} (hs : s ∈ rpPS e z P t) : ∃ k, t * P ≤ k ∧ k < t * P + P ∧ rpOk e k = false ∧ rpK e z P k = some s ∧ s.sector = k := by
  unfold rpPS at hs
  split at hs
  · rename_i hp
    obtain ⟨j, hj, rfl⟩ := List.mem_map.1 hs
    obtain ⟨m, rfl, hm, hq⟩ := flt_mem hj
    have hq' : rpOk e (t * P + m) = false := by simpa using hq
    obtain ⟨d1, d2⟩ := rp_div (show t * P ≤ t * P + m by omega) (by omega)
    have hsec : ((t * P : Nat) : Int) + (m : Int) = ((t * P + m : Nat) : Int) := by omega
    refine ⟨t * P + m, by omega, by omega, hq', ?_, hsec⟩
    unfold rpK
    rw [if_neg (by rw [hq']; decide), d1, if_pos hp]
    unfold rpSrc
    rw [hsec]
  · cases hs
theorem rpPS_ne (t : Nat) : (rpPS e z P t).Pairwise fun a b => a.sector ≠ b.sector := by
  unfold rpPS
  split
  · exact fsr_ne _ _
  · exact List.Pairwise.nil
theorem rpX_mem {n : Nat} {s : Src} (hs : s ∈ rpX e n) : ∃ k, k < n ∧ rpOk e k = true ∧ (firE e k).1 = s ∧ s.sector = k := by
  obtain ⟨k, hk, h⟩ := List.mem_filterMap.1 hs
  unfold rpK1 at h
  split at h
  · rename_i h1
    injection h with h
    exact ⟨k, List.mem_range.1 hk, h1, h, by rw [← h, fir_sector]⟩
  · cases h
theorem rpX_ne (n : Nat) : (rpX e n).Pairwise fun a b => a.sector ≠ b.sector := by
  unfold rpX
  rw [List.pairwise_filterMap]
  refine (List.pairwise_lt_range (n := n)).imp fun {i j} hij a ha b hb => ?_
  unfold rpK1 at ha hb
  split at ha
  · split at hb
    · injection ha with ha; injection hb with hb
      rw [← ha, ← hb, fir_sector, fir_sector]; omega
    · cases hb
  · cases ha
theorem rpXT_ne (t : Nat) : (rpXT e z P N t).Pairwise fun a b => a.sector ≠ b.sector := by
  unfold rpXT
  rw [List.pairwise_append]
  refine ⟨rpX_ne N, ?_, fun a ha b hb => ?_⟩
  · rw [List.pairwise_flatMap]
    refine ⟨fun a _ => rpPS_ne a, (List.pairwise_lt_range (n := t)).imp fun {i j} hij a ha b hb => ?_⟩
    obtain ⟨k, k1, k2, _, _, k3⟩ := rpPS_mem ha
    obtain ⟨m, m1, m2, _, _, m3⟩ := rpPS_mem hb
    have : i * P + P ≤ j * P := by
      have := Nat.mul_le_mul_right P (show i + 1 ≤ j by omega)
      rwa [Nat.add_mul, Nat.one_mul] at this
    omega
  · obtain ⟨k, _, k1, _, k2⟩ := rpX_mem ha
    obtain ⟨t', _, hb⟩ := List.mem_flatMap.1 hb
    obtain ⟨m, _, _, m1, _, m2⟩ := rpPS_mem hb
    intro h
    have : k = m := by omega
    subst this
    rw [k1] at m1; cases m1
theorem ne_nodup {l : List Src} (h : l.Pairwise fun a b => a.sector ≠ b.sector) : l.Nodup := h.imp fun h e => h (by rw [e])
theorem rpXT_perm {T : Nat} (hN : N = T * P) (hP : 1 ≤ P) : (rpXT e z P N T).Perm (rpY e z P N) := by
  refine (List.perm_ext_iff_of_nodup (ne_nodup (rpXT_ne T)) (ne_nodup (srt_ne (rpY_srt N)))).2 fun s => ?_
  unfold rpXT rpY
  rw [List.mem_append, List.mem_filterMap, List.mem_flatMap]
  constructor
  · rintro (h | ⟨t, ht, h⟩)
    · obtain ⟨k, k1, k2, k3, _⟩ := rpX_mem h
      exact ⟨k, List.mem_range.2 k1, by unfold rpK; rw [if_pos k2, k3]⟩
    · obtain ⟨k, k1, k2, _, k3, _⟩ := rpPS_mem h
      have ht' := List.mem_range.1 ht
      have : t * P + P ≤ T * P := by
        have := Nat.mul_le_mul_right P (show t + 1 ≤ T by omega)
        rwa [Nat.add_mul, Nat.one_mul] at this
      exact ⟨k, List.mem_range.2 (by omega), k3⟩
  · rintro ⟨k, hk, h⟩
    have hk' := List.mem_range.1 hk
    cases hok : rpOk e k
    · refine .inr ⟨k / P, List.mem_range.2 ?_, ?_⟩
      · rw [Nat.div_lt_iff_lt_mul (by omega)]; omega
      · unfold rpK at h
        rw [if_neg (by rw [hok]; decide)] at h
        split at h
        · rename_i hp
          injection h with h
          subst h
          have hm := Nat.mod_lt k (show P > 0 by omega)
          have hd := Nat.div_add_mod k P
          rw [Nat.mul_comm] at hd
          unfold rpPS
          rw [if_pos hp]
          refine List.mem_map.2 ⟨((k % P : Nat) : Int), flt_has hm (by rw [hd, hok]; rfl), ?_⟩
          unfold rpSrc
          congr 1
          omega
        · cases h
    · refine .inl (List.mem_filterMap.2 ⟨k, hk, ?_⟩)
      unfold rpK at h
      rw [if_pos hok] at h
      unfold rpK1
      rw [if_pos hok]; exact h
/-- the found sources of a track, and those of one sector -/
def rpFd (e : Evd) (o n : Nat) : List Src := (List.range n).filterMap fun j => rpK1 e (o + j)
def rpEq (k : Nat) (s : Src) : Bool := s.sector == (k : Int)
end
/-! the walk's steps -/
theorem rpR_eq {e : Evd} {t : Nat} {bl : List ByteArray} {L : List Int} {pt qt : ByteArray} (hp : e.p[t]? = some pt) (hq : e.q[t]? = some qt) : rpR e t bl L = r2E bl L pt qt := by
  unfold rpR; rw [List.getD_eq_getElem?_getD, List.getD_eq_getElem?_getD, hp, hq]; rfl
theorem rpC_eq {e : Evd} {t : Nat} {bl : List ByteArray} {L : List Int} {pt qt : ByteArray} (hp : e.p[t]? = some pt) (hq : e.q[t]? = some qt) : rpC e t bl L = rsB pt qt (r2E bl L pt qt) := by
  unfold rpC; rw [rpR_eq hp hq, List.getD_eq_getElem?_getD, List.getD_eq_getElem?_getD, hp, hq]; rfl
theorem rpAdd_no {e : Evd} {S : List Sec} {t o P : Nat} {L : List Int} (h : rpC e t (rpB S o P) L = false) : rpAdd e S t o P L = (S, []) := by
  unfold rpAdd rpA; rw [h, Bool.false_and]; rfl
theorem rpAdd_bad {e : Evd} {S : List Sec} {t o P : Nat} {L : List Int} {q : Nat} {j : Int} (hj : L[q]? = some j) (h : rpF e o (rpR e t (rpB S o P) L).1 j = false) : rpAdd e S t o P L = (S, []) := by
  unfold rpAdd rpA
  rw [if_neg]
  rw [Bool.and_eq_true, List.all_eq_true]
  rintro ⟨_, h2⟩
  have := h2 j (List.mem_of_getElem? hj)
  rw [h] at this; cases this
theorem rpAdd_nil {e : Evd} {S : List Sec} {t o P : Nat} {L : List Int} (h : L = []) : rpAdd e S t o P L = (S, []) := by
  subst h
  unfold rpAdd
  split <;> rfl
theorem rpAdd_yes {e : Evd} {S : List Sec} {t o P : Nat} {L : List Int} (h : rpC e t (rpB S o P) L = true) (h2 : ∀ j ∈ L, rpF e o (rpR e t (rpB S o P) L).1 j = true) : rpAdd e S t o P L = (rpSet o (rpR e t (rpB S o P) L).1 S L, L.map (rpSrc o)) := by
  unfold rpAdd rpA
  rw [if_pos (by rw [h, Bool.true_and, List.all_eq_true]; exact h2)]
theorem take_all {α : Type} {L : List α} {q : Nat} {p : α → Prop} {a : α} (ha : L[q]? = some a) (h : ∀ j ∈ L.take q, p j) (hp : p a) : ∀ j ∈ L.take (q + 1), p j := by
  obtain ⟨hk, rfl⟩ := List.getElem?_eq_some_iff.1 ha
  intro j hj
  rw [List.take_succ_eq_append_getElem hk] at hj
  rcases List.mem_append.1 hj with hj | hj
  · exact h j hj
  · rw [List.mem_singleton.1 hj]; exact hp
theorem srcs_next {L : List Int} {q : Nat} {a : Int} {o : Nat} {A : List Src} (ha : L[q]? = some a) (H : Hid (A = (L.take q).map (rpSrc o))) : Hid (A ++ [rpSrc o a] = (L.take (q + 1)).map (rpSrc o)) := by
  obtain ⟨hk, rfl⟩ := List.getElem?_eq_some_iff.1 ha
  exact Lib.hid (by rw [H.out, List.take_succ_eq_append_getElem hk, List.map_append]; rfl)
theorem rpSet_next {L : List Int} {q : Nat} {a : Int} {o : Nat} {G : List ByteArray} {S : List Sec} (ha : L[q]? = some a) : (rpSet o G S (L.take q)).set (o + a.toNat) (rpG (G.getD a.toNat .empty)) = rpSet o G S (L.take (q + 1)) := by
  obtain ⟨hk, rfl⟩ := List.getElem?_eq_some_iff.1 ha
  rw [List.take_succ_eq_append_getElem hk]
  unfold rpSet
  rw [List.foldl_append]; rfl
/-! sizes of restored blocks -/
theorem xorN_le (a b : List Nat) : (xorN a b).length ≤ a.length := by unfold xorN; rw [List.length_zipWith]; exact Nat.min_le_left _ _
theorem set_all {n : Nat} {l : List ByteArray} {k : Nat} {s : ByteArray} (h : ∀ x ∈ l, x.size ≤ n) (hs : s.size ≤ n) : ∀ x ∈ l.set k s, x.size ≤ n := fun x hx => by
  rcases List.mem_or_eq_of_mem_set hx with hx | rfl
  · exact h x hx
  · exact hs
theorem r2_sz {bl : List ByteArray} {L : List Int} {p q : ByteArray} : ∀ s ∈ (r2E bl L p q).1, s.size ≤ 64 := by
  unfold r2E
  split
  · intro s hs; cases hs
  · split
    · intro s hs; cases hs
    · split
      · intro s hs; cases hs
      · rename_i h1 h2 h3
        have g := grp (bl := bl) (L := L) (p := p) (q := q) (fun h => h2 (.inl h))
        obtain ⟨x1, y1⟩ := g.len
        have n2 := g.n2
        have hle : ∀ x ∈ leftG L bl, x.size ≤ 64 := fun x hx => by rcases left_sizes g.all x hx with h | h <;> omega
        show ∀ s ∈ outL (leftG L bl) (rX bl L p q) (rY bl L p q) p q L, s.size ≤ 64
        have hx : ∀ b, (xorN (rX bl L p q) b).length ≤ 64 := fun b => Nat.le_trans (xorN_le _ _) (by omega)
        have hy : ∀ b, (xorN (rY bl L p q) b).length ≤ 64 := fun b => Nat.le_trans (xorN_le _ _) (by omega)
        unfold outL
        split
        · refine set_all hle ?_
          split
          · rw [strN_size, scN_len]; exact hy _
          · rw [strN_size]; exact hx _
        · refine set_all (set_all hle ?_) ?_
          · rw [strN_size]; unfold fstF; rw [scN_len]; exact Nat.le_trans (xorN_le _ _) (hy _)
          · rw [strN_size]; exact Nat.le_trans (xorN_le _ _) (hx _)
        · exact hle
theorem r2_getD {bl : List ByteArray} {L : List Int} {p q : ByteArray} (j : Nat) : ((r2E bl L p q).1.getD j .empty).size ≤ 64 := by
  rw [List.getD_eq_getElem?_getD]
  cases h : (r2E bl L p q).1[j]? with
  | none => exact Nat.zero_le _
  | some s => exact r2_sz s (List.mem_of_getElem? h)
end Go.Proofs.YtddihmpiaemadaaGreatDoor
