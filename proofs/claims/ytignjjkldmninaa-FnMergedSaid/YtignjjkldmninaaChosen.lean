/- chosen, once for each condition: the walks. -/
import Derived.Test.YtignjjkldmninaaHInt64
import Derived.Test.YtignjjkldmninaaCols
/- oneKind: the walk. -/
namespace Go.Proofs.Ytignjjkldmninaa
set_option linter.unusedVariables false
open Go.RowKit
def idxK (t : ByteArray) : Nat → List ByteArray → Int
  | _, [] => -1
  | k, s :: r => if s.toList == t.toList then idxK t (k + 1) r else k
theorem idxK_any (t : ByteArray) (k : Nat) (l : List ByteArray) : decide (0 ≤ idxK t k l) = l.any fun s => s.toList != t.toList := by
  induction l generalizing k with
  | nil => rfl
  | cons s r ih =>
    unfold idxK
    rw [List.any_cons]
    cases h : (s.toList == t.toList)
    · simp [bne, h]
    · simp only [if_pos, bne, h, Bool.not_true, Bool.false_or]
      rw [ih]; rfl
theorem ik_yes {t s : ByteArray} {k : Nat} {l : List ByteArray} (hs : l[k]? = some s) (H : Hid (idxK t 0 l = idxK t k (l.drop k))) (h : (s.toList == t.toList) = true) : Hid (idxK t 0 l = idxK t (k + 1) (l.drop (k + 1))) := by
  obtain ⟨hk, rfl⟩ := List.getElem?_eq_some_iff.1 hs
  exact Lib.hid (by rw [H.out, List.drop_eq_getElem_cons hk, idxK, if_pos h])
theorem ik_no {t s : ByteArray} {k : Nat} {l : List ByteArray} (hs : l[k]? = some s) (H : Hid (idxK t 0 l = idxK t k (l.drop k))) (h : (s.toList == t.toList) = false) : idxK t 0 l = k := by
  obtain ⟨hk, rfl⟩ := List.getElem?_eq_some_iff.1 hs
  rw [H.out, List.drop_eq_getElem_cons hk, idxK, if_neg (by rw [h]; decide)]
set_option maxHeartbeats 2000000 in
theorem indexK_i (bx g c : Nat) (l : List ByteArray) (t : ByteArray) (w : World) (hm : l.length ≤ 1048576) (hbx : w.cell? ⟨bx, 0, none⟩ = some (.slice (some ⟨g, 0, none⟩) l.length c)) (h0 : l[0]? = some t)
    (hc : ∀ k s, l[k]? = some s → w.cell? ⟨g, k, none⟩ = some (.string s)) :
    Calls Try.prog 133 #[.slice (some ⟨g, 0, none⟩) l.length c, .func (.func 119) #[] #[.pointer (some ⟨bx, 0, none⟩)]] w fun e w' => e = .returned (.int .i64 (idxK t 0 l)) ∧ Below w.heap.size w w' := by
  have hl0 : 0 < l.length := (List.getElem?_eq_some_iff.1 h0).1
  have p0 := hc 0 t h0
  have HC := Lib.hid hc
  clear h0 hc
  go_enter Try.func133, Try.ntmps133
  go_wp2
  go_loop [8] (fun i => ∃ k : Nat, k ≤ l.length ∧ i = .int .i64 k ∧ Hid (idxK t 0 l = idxK t k (l.drop k))) (fun i => l.length - (intOf i).toNat)
  case atStart => exact ⟨0, by omega, rfl, Lib.hid rfl⟩
  case round =>
    obtain ⟨k, hk, rfl, HK⟩ := hrel
    by_cases hlt : k < l.length
    · obtain ⟨s, hs⟩ : ∃ s, l[k]? = some s := ⟨l[k], List.getElem?_eq_getElem hlt⟩
      have pk := HC.out k s hs
      have HS := Lib.hid hs
      clear hs
      cases hsz : (s.toList == t.toList)
      · have hd : (s.toList != t.toList) = true := by simp [bne, hsz]
        go_wp2
        go_ret
        exact ⟨ret_int (ik_no HS.out HK hsz).symm, Below.refl _ _⟩
      · have hd : (s.toList != t.toList) = false := by simp [bne, hsz]
        go_wp2
        go_round
        case rel => exact ⟨k + 1, by omega, by go_num, ik_yes HS.out HK hsz⟩
        case measure => simp [intOf]; omega
    · go_wp2
      go_ret
      exact ⟨ret_int (by rw [HK.out, List.drop_of_length_le (by omega)]; rfl), Below.refl _ _⟩
def kindF (l : List ByteArray) : Bool := !(l.any fun s => s.toList != (l.headD .empty).toList)
set_option maxHeartbeats 2000000 in
theorem kind_i (B : Nat) (l : List ByteArray) (v : Value) (w : World) (h : StringL B w v l) (hn : l.length ≤ 1048576) :
    Calls Try.prog 92 #[v] w fun e w' => e = .returned (.bool (kindF l)) ∧ Below w.heap.size w w' := by
  obtain ⟨A, c, rfl, hA⟩ := h.shape
  by_cases hl0 : l = []
  · subst hl0
    go_enter Try.func92, Try.ntmps92
    go_wp2
    refine wp_loop_once ?_
    go_wp2
    go_ret
    exact ⟨rfl, (by repeat (first | exact Below.refl _ _ | refine Below.alloc ?_ (by first | omega | (simp; done) | (simp; omega)) _ | apply Below.drew | apply below_drewN | refine Below.setCell ?_ (by first | omega | (simp; done) | (simp; omega)) _ | refine Below.trans ?_ (Below.mono (by assumption) (by first | omega | (simp; done) | (simp; omega)))))⟩
  · obtain ⟨g, rfl, _, hg⟩ := hA.resolve_left hl0
    obtain ⟨t, r, rfl⟩ := List.exists_cons_of_ne_nil hl0
    generalize hl : t :: r = l at *
    have ht : l[0]? = some t := by rw [← hl]; rfl
    have hh : l.headD .empty = t := by rw [← hl]; rfl
    have HI := Lib.hid (indexK_i w.heap.size g c l t (w.alloc (.cells #[.slice (some ⟨g, 0, none⟩) l.length c] 85)) hn (by simp) ht (fun k s hk => (World.cell?_alloc_old _ _ _ (Nat.ne_of_lt hg)).trans (StringL.at_ h rfl hk)))
    have HK : Hid (decide (0 ≤ idxK t 0 l) = !(kindF l)) := Lib.hid (by rw [idxK_any]; unfold kindF; rw [hh, Bool.not_not])
    generalize idxK t 0 l = x at *
    clear h
    cases hk : kindF l
    · have hx : decide (0 ≤ x) = true := by rw [HK.out, hk]; rfl
      go_enter Try.func92, Try.ntmps92
      go_wp2_with (first | (go_at_call 133; refine HI.out.mono ?_; rintro e w1 ⟨rfl, hb1⟩) | go_in)
      go_ret
      exact ⟨rfl, (by repeat (first | exact Below.refl _ _ | refine Below.alloc ?_ (by first | omega | (simp; done) | (simp; omega)) _ | apply Below.drew | apply below_drewN | refine Below.setCell ?_ (by first | omega | (simp; done) | (simp; omega)) _ | refine Below.trans ?_ (Below.mono (by assumption) (by first | omega | (simp; done) | (simp; omega)))))⟩
    · have hx : decide (0 ≤ x) = false := by rw [HK.out, hk]; rfl
      go_enter Try.func92, Try.ntmps92
      go_wp2_with (first | (go_at_call 133; refine HI.out.mono ?_; rintro e w1 ⟨rfl, hb1⟩) | go_in)
      go_ret
      exact ⟨rfl, (by repeat (first | exact Below.refl _ _ | refine Below.alloc ?_ (by first | omega | (simp; done) | (simp; omega)) _ | apply Below.drew | apply below_drewN | refine Below.setCell ?_ (by first | omega | (simp; done) | (simp; omega)) _ | refine Below.trans ?_ (Below.mono (by assumption) (by first | omega | (simp; done) | (simp; omega)))))⟩
end Go.Proofs.Ytignjjkldmninaa
namespace Go.Proofs.Ytignjjkldmninaa
open Go.RowKit
theorem bcellOf {w w' : World} {a : Addr} {v : Value} (hb : Below w.heap.size w w') (h : w.cell? a = some v) : w'.cell? a = some v := (hb.cell (World.block_lt_of_cell? w a h)).trans h
def lackB (g : List ByteArray) : Bool := g.length == 0
def confB (g : List ByteArray) : Bool := !kindF g
def commB (n : Nat) (g : List ByteArray) : Bool := g.length == n && kindF g
theorem lack_c (B : Nat) (l : List ByteArray) (v : Value) (w : World) (h : StringL B w v l) (hn : l.length ≤ 1048576) :
    Calls Try.prog 89 #[v] w fun e w' => e = .returned (.bool (lackB l)) ∧ Below w.heap.size w w' := by
  obtain ⟨A, c, rfl, hA⟩ := h.shape
  clear h hA
  unfold lackB
  by_cases hl : l.length = 0
  · have hd : ((l.length : Int) == 0) = true := by simp [hl]
    have he : (l.length == 0) = true := by simp [hl]
    go_enter Try.func89, Try.ntmps89
    go_wp2
    go_ret
    exact ⟨ret_bool he.symm, Below.refl _ _⟩
  · have hd : ((l.length : Int) == 0) = false := by rw [beq_eq_false_iff_ne]; omega
    have he : (l.length == 0) = false := by rw [beq_eq_false_iff_ne]; omega
    go_enter Try.func89, Try.ntmps89
    go_wp2
    go_ret
    exact ⟨ret_bool he.symm, Below.refl _ _⟩
theorem conf_c (B : Nat) (l : List ByteArray) (v : Value) (w : World) (h : StringL B w v l) (hn : l.length ≤ 1048576) :
    Calls Try.prog 93 #[v] w fun e w' => e = .returned (.bool (confB l)) ∧ Below w.heap.size w w' := by
  have HK := Lib.hid (kind_i B l v w h hn)
  obtain ⟨A, c, rfl, hA⟩ := h.shape
  clear h hA
  unfold confB
  go_enter Try.func93, Try.ntmps93
  go_wp2_with (fail)
  refine HK.out.mono ?_; rintro e w1 ⟨rfl, hb1⟩
  go_wp2
  go_ret
  exact ⟨rfl, hb1⟩
theorem comm_c (B bx n cc : Nat) (AA : Option Addr) (l : List ByteArray) (v : Value) (w : World) (h : StringL B w v l) (hn : l.length ≤ 1048576) (hx : w.cell? ⟨bx, 0, none⟩ = some (.slice AA n cc)) :
    Calls Try.prog 91 #[v, .pointer (some ⟨bx, 0, none⟩)] w fun e w' => e = .returned (.bool (commB n l)) ∧ Below w.heap.size w w' := by
  have HK := Lib.hid (kind_i B l v w h hn)
  obtain ⟨A, c, rfl, hA⟩ := h.shape
  clear h hA
  unfold commB
  by_cases hl : l.length = n
  · subst hl
    have hd : ((l.length : Int) == (l.length : Int)) = true := by simp
    have he : (l.length == l.length) = true := by simp
    go_enter Try.func91, Try.ntmps91
    go_wp2_with (fail)
    refine HK.out.mono ?_; rintro e w1 ⟨rfl, hb1⟩
    go_wp2
    go_ret
    refine ⟨?_, hb1⟩
    rw [he, Bool.true_and]
    rfl
  · have hd : ((l.length : Int) == (n : Int)) = false := by rw [beq_eq_false_iff_ne]; omega
    have he : (l.length == n) = false := by rw [beq_eq_false_iff_ne]; omega
    go_enter Try.func91, Try.ntmps91
    go_wp2
    go_ret
    refine ⟨?_, Below.refl _ _⟩
    rw [he, Bool.false_and]
    rfl
end Go.Proofs.Ytignjjkldmninaa
