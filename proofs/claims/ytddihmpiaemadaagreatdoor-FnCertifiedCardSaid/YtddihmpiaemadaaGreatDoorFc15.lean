/- Inverses, impl and spec: the walks; unscaled. A slice of strings of the call's own reads as its strings. leftOver of the implementation, and what it calls: the walks. -/
import Derived.Test.YtddihmpiaemadaaGreatDoorFc14
import Derived.Test.YtddihmpiaemadaaGreatDoorFc02
import Derived.Test.YtddihmpiaemadaaGreatDoorFc09
namespace Go.Proofs.YtddihmpiaemadaaGreatDoor
set_option linter.unusedVariables false
set_option linter.unusedSimpArgs false
open Go.RowKit
def invG (a : Nat) : Nat → Nat → Nat
  | _, 0 => 0
  | x, n + 1 => if (gmul a x 0 == 1) = true then x else invG a (x + 1) n
def invF (a : Nat) : Nat := invG a 1 255
theorem invG_lt {a x n : Nat} (h : x + n ≤ 256) : invG a x n < 256 := by
  induction n generalizing x with
  | zero => unfold invG; omega
  | succ n ih =>
    unfold invG
    split
    · omega
    · exact ih (by omega)
theorem inv_lt (a : Nat) : invF a < 256 := invG_lt (by omega)
theorem in_yes {a x X : Nat} (hx : x < 256) (H : Hid (X = invG a x (256 - x))) (h : (gmul a x 0 == 1) = true) : X = x := by
  rw [H.out, show 256 - x = (256 - (x + 1)) + 1 by omega, invG, if_pos h]
theorem in_no {a x X : Nat} (hx : x < 256) (H : Hid (X = invG a x (256 - x))) (h : (gmul a x 0 == 1) = false) : Hid (X = invG a (x + 1) (256 - (x + 1))) :=
  Lib.hid (by rw [H.out, show 256 - x = (256 - (x + 1)) + 1 by omega, invG, if_neg (by rw [h]; decide)])
theorem in_end {a x X : Nat} (hx : 256 ≤ x) (H : Hid (X = invG a x (256 - x))) : X = 0 := by
  rw [H.out, show 256 - x = 0 by omega, invG]
set_option maxRecDepth 20000 in
set_option maxHeartbeats 1000000 in
theorem inv_i (a : Nat) (w : World) (ha : a < 256) : Calls Tryz.prog 154 #[.int .i64 a] w fun e w' => e = .returned (.int .i64 (invF a)) ∧ w = w' := by
  have hb : inB a 0 255 = true := inB_t (by omega)
  go_enter Tryz.func154, Tryz.ntmps154
  go_wp2
  go_loop [3] (fun i => ∃ x : Nat, 1 ≤ x ∧ x ≤ 256 ∧ i = .int .i64 x ∧ Hid (invF a = invG a x (256 - x))) (fun i => 256 - (intOf i).toNat)
  case atStart => exact ⟨1, by omega, by omega, rfl, Lib.hid rfl⟩
  case round =>
    obtain ⟨x, hx1, hx, rfl, HK⟩ := hrel
    by_cases hlt : x < 256
    · have HG := Lib.hid (gmul_i a x w ha hlt)
      cases hc : gmul a x 0 == 1
      · have HN := in_no hlt HK hc
        have hd' : (((gmul a x 0 : Nat) : Int) == 1) = false := by rw [beq_eq_false_iff_ne] at hc ⊢; omega
        generalize gmul a x 0 = y at *
        go_wp2_with (first | (go_at_call 155; refine HG.out.mono ?_; rintro e w1 ⟨rfl, rfl⟩) | (go_at_call 41; refine (within_i _ _ _ _).mono ?_; rintro e w1 ⟨rfl, rfl⟩) | go_in)
        go_round
        case rel => exact ⟨x + 1, by omega, by omega, by go_num, HN⟩
        case measure => simp [intOf]; omega
      · have HN := Lib.hid (in_yes hlt HK hc)
        have hd' : (((gmul a x 0 : Nat) : Int) == 1) = true := by rw [beq_iff_eq] at hc ⊢; omega
        generalize gmul a x 0 = y at *
        go_wp2_with (first | (go_at_call 155; refine HG.out.mono ?_; rintro e w1 ⟨rfl, rfl⟩) | (go_at_call 41; refine (within_i _ _ _ _).mono ?_; rintro e w1 ⟨rfl, rfl⟩) | go_in)
        go_ret
        exact ⟨ret_int (by rw [HN.out]), rfl⟩
    · have HN := Lib.hid (in_end (by omega) HK)
      go_wp2
      go_ret
      exact ⟨ret_int (by rw [HN.out]; rfl), rfl⟩
set_option maxRecDepth 20000 in
set_option maxRecDepth 20000 in
set_option maxHeartbeats 1000000 in
theorem unscaled_i (s : ByteArray) (a : Nat) (w : World) (hs : s.size ≤ 2097152) (ha : a < 256) :
    Calls Tryz.prog 118 #[.string s, .int .i64 a] w fun e w' => e = .returned (.string (strN (scN (invF a) (bts s)))) ∧ Below w.heap.size w w' := by
  obtain ⟨wb, hmk, hbuf, hb0, hwz⟩ := buf_made w s.size (by omega)
  have hl := bts_len s
  have hgl := inv_lt a
  have HIV := Lib.hid (inv_i a w ha)
  go_enter Tryz.func118, Tryz.ntmps118
  go_wp2_with (go_at_call 154; refine HIV.out.mono ?_; rintro e w1 ⟨rfl, rfl⟩)
  generalize hf : invF a = f at *
  have hxl : (scN f (bts s)).length = (List.replicate s.size 0).length := by rw [scN_len, hl]; simp
  go_loopw [15] (fun i wr => ∃ k : Nat, k ≤ s.size ∧ i = .int .i64 k ∧ Below w.heap.size w wr ∧ wr.heap.size = w.heap.size + 1 ∧ Buf wr w.heap.size (updP (List.replicate s.size 0) (scN f (bts s)) k)) (fun i _ => s.size - (intOf i).toNat)
  case atStart => exact ⟨0, by omega, rfl, hb0, hwz, by rw [upd_zero]; exact hbuf⟩
  case round =>
    obtain ⟨k, hk, rfl, hbw, hz, HB⟩ := hrel
    by_cases hlt : k < s.size
    · have g1 := bts_get hlt
      have hu := upd_get (k := k) hxl (by simpa using hlt)
      rw [List.getElem?_replicate, if_pos hlt] at hu
      obtain ⟨p1, p2⟩ := HB k _ hu
      have HS := Lib.hid (HB.set (gmul s[k].toNat f 0) hu)
      rw [upd_set hxl (scN_get g1)] at HS
      have hgm := gmul_lt (b := f) (acc := 0) (UInt8.toNat_lt s[k]) (by omega)
      have hwr := wrap_u8_nat _ hgm
      clear HB hu g1
      have hbk := UInt8.toNat_lt s[k]
      have HG := fun w => gmul_i s[k].toNat f w (UInt8.toNat_lt s[k]) hgl
      generalize gmul s[k].toNat f 0 = y at *
      go_wp2_with (go_at_call 155; refine (HG _).mono ?_; rintro e w1 ⟨rfl, rfl⟩)
      go_roundw
      case rel => exact ⟨k + 1, by omega, by go_num, (by repeat (first | exact Below.refl _ _ | refine Below.alloc ?_ (by first | omega | (simp; done) | (simp; omega)) _ | apply Below.drew | apply below_drewN | refine Below.setCell ?_ (by first | omega | (simp; done) | (simp; omega)) _ | refine Below.trans ?_ (Below.mono (by assumption) (by first | omega | (simp; done) | (simp; omega))))), by simpa using hz, HS.out⟩
      case measure => simp [intOf]; omega
    · have hst := HB.str (n := s.size) (c := s.size) (by rw [upd_len hxl]; simp)
      rw [upd_end hxl (by simp; omega)] at hst
      go_wp2
      go_ret
      rw [hf]
      exact ⟨rfl, (by repeat (first | exact Below.refl _ _ | refine Below.alloc ?_ (by first | omega | (simp; done) | (simp; omega)) _ | apply Below.drew | apply below_drewN | refine Below.setCell ?_ (by first | omega | (simp; done) | (simp; omega)) _ | refine Below.trans ?_ (Below.mono (by assumption) (by first | omega | (simp; done) | (simp; omega)))))⟩
end Go.Proofs.YtddihmpiaemadaaGreatDoor
namespace Go.Proofs.YtddihmpiaemadaaGreatDoor
set_option linter.unusedVariables false
set_option linter.unusedSimpArgs false
open Go.RowKit
theorem strL_own {B : Nat} {w : World} {v : Value} {l : List ByteArray} (h : StringL B w v l) : StrL w v l := by
  obtain ⟨A, c, rfl, hA⟩ := h.shape
  refine ⟨A, c, rfl, ?_⟩
  rcases hA with hA | ⟨g, rfl, _, hg⟩
  · exact .inl hA
  · exact .inr ⟨g, rfl, hg, fun k s hk => h.at_ rfl hk⟩
end Go.Proofs.YtddihmpiaemadaaGreatDoor
namespace Go.Proofs.YtddihmpiaemadaaGreatDoor
set_option linter.unusedVariables false
set_option linter.unusedSimpArgs false
open Go.RowKit
def hasB (L : List Int) (i : Nat) : Bool := L.any fun x => x == (i : Int)
theorem has_snoc (L : List Int) (x : Int) (i : Nat) : hasB (L ++ [x]) i = (hasB L i || x == (i : Int)) := by simp [hasB]
def leftG (L : List Int) (bl : List ByteArray) : List ByteArray := bl.mapIdx fun i b => if hasB L i = true then .empty else b
theorem left_len (L : List Int) (bl : List ByteArray) : (leftG L bl).length = bl.length := by simp [leftG]
theorem left_get {L : List Int} {bl : List ByteArray} {k : Nat} {b : ByteArray} (h : bl[k]? = some b) : (leftG L bl)[k]? = some (if hasB L k = true then .empty else b) := by
  unfold leftG; rw [List.getElem?_mapIdx, h]; rfl
theorem left_nil (bl : List ByteArray) : leftG [] bl = bl := by
  refine List.ext_getElem? fun k => ?_
  cases h : bl[k]? with
  | none => rw [List.getElem?_eq_none]; rw [left_len]; exact List.getElem?_eq_none_iff.1 h
  | some b => rw [left_get h]; simp [hasB]
theorem left_set {L : List Int} {bl : List ByteArray} {j m : Nat} (hx : L[j]? = some (m : Int)) (hm : m < bl.length) : (leftG (L.take j) bl).set m .empty = leftG (L.take (j + 1)) bl := by
  obtain ⟨hj, he⟩ := List.getElem?_eq_some_iff.1 hx
  refine List.ext_getElem? fun k => ?_
  rw [List.getElem?_set, left_len]
  by_cases hk : k < bl.length
  · rw [left_get (List.getElem?_eq_getElem hk), left_get (List.getElem?_eq_getElem hk), List.take_succ_eq_append_getElem hj, has_snoc, he]
    by_cases h : m = k
    · subst h; simp [hm]
    · rw [if_neg h]
      have : ((m : Int) == (k : Int)) = false := by rw [beq_eq_false_iff_ne]; omega
      rw [this, Bool.or_false]
  · rw [if_neg (by omega), List.getElem?_eq_none (by rw [left_len]; omega), List.getElem?_eq_none (by rw [left_len]; omega)]
def knF (L : List Int) : Nat → List ByteArray → List ByteArray
  | _, [] => []
  | k, b :: r => if hasB L k = true then knF L (k + 1) r else b :: knF L (k + 1) r
theorem kn_len (L : List Int) (k : Nat) (l : List ByteArray) : (knF L k l).length ≤ l.length := by
  induction l generalizing k with
  | nil => exact Nat.le_refl _
  | cons b r ih => have := ih (k + 1); unfold knF; split <;> simp <;> omega
theorem kn_yes {L : List Int} {k : Nat} {l acc X : List ByteArray} {b : ByteArray} (hb : l[k]? = some b) (H : Hid (X = acc ++ knF L k (l.drop k))) (h : hasB L k = true) : Hid (X = acc ++ knF L (k + 1) (l.drop (k + 1))) := by
  obtain ⟨hk, rfl⟩ := List.getElem?_eq_some_iff.1 hb
  exact Lib.hid (by rw [H.out, List.drop_eq_getElem_cons hk, knF, if_pos h])
theorem kn_no {L : List Int} {k : Nat} {l acc X : List ByteArray} {b : ByteArray} (hb : l[k]? = some b) (H : Hid (X = acc ++ knF L k (l.drop k))) (h : hasB L k = false) : Hid (X = (acc ++ [b]) ++ knF L (k + 1) (l.drop (k + 1))) := by
  obtain ⟨hk, rfl⟩ := List.getElem?_eq_some_iff.1 hb
  exact Lib.hid (by rw [H.out, List.drop_eq_getElem_cons hk, knF, if_neg (by rw [h]; decide)]; simp)
theorem kn_end {L : List Int} {k : Nat} {l acc X : List ByteArray} (hk : l.length ≤ k) (H : Hid (X = acc ++ knF L k (l.drop k))) : X = acc := by
  rw [H.out, List.drop_of_length_le hk, knF, List.append_nil]
def neF (l : List ByteArray) : List ByteArray := l.filter fun s => !s.toList.isEmpty
theorem ne_c (b : ByteArray) (r : List ByteArray) : neF (b :: r) = if b.toList.isEmpty = true then neF r else b :: neF r := by
  unfold neF
  rw [List.filter_cons]
  cases b.toList.isEmpty <;> rfl
theorem ne_yes {l acc X : List ByteArray} {k : Nat} {b : ByteArray} (hb : l[k]? = some b) (H : Hid (X = acc ++ neF (l.drop k))) (h : b.toList.isEmpty = true) : Hid (X = acc ++ neF (l.drop (k + 1))) := by
  obtain ⟨hk, rfl⟩ := List.getElem?_eq_some_iff.1 hb
  exact Lib.hid (by rw [H.out, List.drop_eq_getElem_cons hk, ne_c, if_pos h])
theorem ne_no {l acc X : List ByteArray} {k : Nat} {b : ByteArray} (hb : l[k]? = some b) (H : Hid (X = acc ++ neF (l.drop k))) (h : b.toList.isEmpty = false) : Hid (X = (acc ++ [b]) ++ neF (l.drop (k + 1))) := by
  obtain ⟨hk, rfl⟩ := List.getElem?_eq_some_iff.1 hb
  exact Lib.hid (by rw [H.out, List.drop_eq_getElem_cons hk, ne_c, if_neg (by rw [h]; decide)]; simp)
theorem ne_end {l acc X : List ByteArray} {k : Nat} (hk : l.length ≤ k) (H : Hid (X = acc ++ neF (l.drop k))) : X = acc := by
  rw [H.out, List.drop_of_length_le hk]; simp [neF]
def ktF (bl : List ByteArray) (L : List Int) (mo : List ByteArray) : List ByteArray := knF L 0 bl ++ neF mo
def szK (n : Nat) (K : List ByteArray) : Nat := match K with
  | [] => 0
  | s :: _ => if (decide (n ≤ 128) && inB s.size 1 64 && sizesAre s.size K) = true then s.size else 0
theorem szK_yes {n : Nat} {K : List ByteArray} {s : ByteArray} (hs : K[0]? = some s) (h1 : n ≤ 128) (h2 : inB s.size 1 64 = true) (h3 : sizesAre s.size K = true) : szK n K = s.size := by
  cases K with
  | nil => cases hs
  | cons a r => obtain rfl : a = s := by simpa using hs
                show (if (decide (n ≤ 128) && inB a.size 1 64 && sizesAre a.size (a :: r)) = true then a.size else 0) = _
                rw [decide_eq_true h1, h2, h3]; rfl
theorem szK_no {n : Nat} {K : List ByteArray} {s : ByteArray} (hs : K[0]? = some s) (h : (decide (n ≤ 128) && inB s.size 1 64 && sizesAre s.size K) = false) : szK n K = 0 := by
  cases K with
  | nil => cases hs
  | cons a r => obtain rfl : a = s := by simpa using hs
                show (if (decide (n ≤ 128) && inB a.size 1 64 && sizesAre a.size (a :: r)) = true then a.size else 0) = _
                rw [h]; rfl
theorem szK_big {n : Nat} {K : List ByteArray} (h : 128 < n) : szK n K = 0 := by
  cases K with
  | nil => rfl
  | cons a r =>
    show (if (decide (n ≤ 128) && inB a.size 1 64 && sizesAre a.size (a :: r)) = true then a.size else 0) = _
    rw [decide_eq_false (by omega)]; rfl
def idxH (i : Nat) : Nat → List Int → Int
  | _, [] => -1
  | k, x :: r => if (x == (i : Int)) = true then k else idxH i (k + 1) r
theorem idxH_has (i k : Nat) (l : List Int) : decide (0 ≤ idxH i k l) = hasB l i := by
  induction l generalizing k with
  | nil => rfl
  | cons x r ih =>
    unfold idxH hasB
    rw [List.any_cons]
    by_cases h : (x == (i : Int)) = true
    · rw [if_pos h, h]; simp
    · rw [if_neg h, ih, Bool.eq_false_iff.2 h, Bool.false_or]; rfl
theorem ih_yes {i k : Nat} {l : List Int} {x : Int} (hx : l[k]? = some x) (H : Hid (idxH i 0 l = idxH i k (l.drop k))) (h : (x == (i : Int)) = true) : idxH i 0 l = k := by
  obtain ⟨hk, rfl⟩ := List.getElem?_eq_some_iff.1 hx
  rw [H.out, List.drop_eq_getElem_cons hk, idxH, if_pos h]
theorem ih_no {i k : Nat} {l : List Int} {x : Int} (hx : l[k]? = some x) (H : Hid (idxH i 0 l = idxH i k (l.drop k))) (h : (x == (i : Int)) = false) : Hid (idxH i 0 l = idxH i (k + 1) (l.drop (k + 1))) := by
  obtain ⟨hk, rfl⟩ := List.getElem?_eq_some_iff.1 hx
  exact Lib.hid (by rw [H.out, List.drop_eq_getElem_cons hk, idxH, if_neg (by rw [h]; decide)])
set_option maxHeartbeats 1000000 in
theorem indexH_i (l : List Int) (i : Nat) (v : Value) (w : World) (h : IntsAt w v l) (hm : l.length ≤ 8388608) (hi : i ≤ 8388608) :
    Calls Tryz.prog 177 #[v, .int .i64 i] w fun e w' => e = .returned (.int .i64 (idxH i 0 l)) ∧ w = w' := by
  obtain ⟨A, c, rfl, hA⟩ := h
  by_cases hl0 : l = []
  · subst hl0
    go_enter Tryz.func177, Tryz.ntmps177
    go_wp2
    refine wp_loop_once ?_
    go_wp2
    go_ret
    exact ⟨rfl, rfl⟩
  · obtain ⟨g, rfl, hg, hc⟩ := hA.resolve_left hl0
    have HC := Lib.hid hc
    clear hA hc
    go_enter Tryz.func177, Tryz.ntmps177
    go_wp2
    go_loop [8] (fun j => ∃ k : Nat, k ≤ l.length ∧ j = .int .i64 k ∧ Hid (idxH i 0 l = idxH i k (l.drop k))) (fun j => l.length - (intOf j).toNat)
    case atStart => exact ⟨0, by omega, rfl, Lib.hid rfl⟩
    case round =>
      obtain ⟨k, hk, rfl, HK⟩ := hrel
      by_cases hlt : k < l.length
      · obtain ⟨x, hx⟩ : ∃ x, l[k]? = some x := ⟨l[k], List.getElem?_eq_getElem hlt⟩
        have pk := HC.out k x hx
        have HX := Lib.hid hx
        clear hx
        cases hc : x == (i : Int)
        · have hc2 : ((i : Int) == x) = false := by rw [beq_eq_false_iff_ne] at hc ⊢; omega
          have HN := ih_no HX.out HK hc
          go_wp2
          go_round
          case rel => exact ⟨k + 1, by omega, by go_num, HN⟩
          case measure => simp [intOf]; omega
        · have hc2 : ((i : Int) == x) = true := by rw [beq_iff_eq] at hc ⊢; omega
          have HN := Lib.hid (ih_yes HX.out HK hc)
          clear hc
          go_wp2
          go_ret
          exact ⟨ret_int HN.out.symm, rfl⟩
      · have HX : Hid (idxH i 0 l = -1) := Lib.hid (by rw [HK.out, List.drop_of_length_le (by omega)]; rfl)
        go_wp2
        go_ret
        exact ⟨ret_int HX.out.symm, rfl⟩
theorem contains_i (l : List Int) (i : Nat) (v : Value) (w : World) (h : IntsAt w v l) (hm : l.length ≤ 8388608) (hi : i ≤ 8388608) :
    Calls Tryz.prog 151 #[v, .int .i64 i] w fun e w' => e = .returned (.bool (hasB l i)) ∧ w = w' := by
  have HI := Lib.hid (indexH_i l i v w h hm hi)
  have HH := idxH_has i 0 l
  obtain ⟨A, c, rfl, hA⟩ := h
  generalize idxH i 0 l = y at *
  generalize hasB l i = hb at *
  clear hA
  go_enter Tryz.func151, Tryz.ntmps151
  go_wp2_with (fail)
  refine HI.out.mono ?_; rintro e w1 ⟨rfl, rfl⟩
  go_wp2
  go_ret
  exact ⟨rfl, rfl⟩
theorem StringL.set {B g c n : Nat} {w : World} {l : List ByteArray} (h : StringL B w (.slice (some ⟨g, 0, none⟩) n c) l) (hn : l.length = n) {k : Nat} (hk : k < l.length) (x : ByteArray) : StringL B (w.setCell ⟨g, k, none⟩ (.string x)) (.slice (some ⟨g, 0, none⟩) n c) (l.set k x) := by
  subst hn
  have h1 := own_put1 h (o := k) (.string x) (by rw [flat_len scell_len]; omega)
  have h2 := flat_put scell_len l k x hk
  rw [Nat.mul_one] at h2
  rw [show [Value.string x] = scell x from rfl, h2] at h1
  show World.ownsRow _ _ _ _ _ _ _
  rw [List.length_set]
  exact h1
set_option maxHeartbeats 1000000 in
theorem clone_str (B : Nat) (v : Value) (l : List ByteArray) (w : World) (h : StringL B w v l) (hn : l.length ≤ 1048576) :
    Calls Tryz.prog 150 #[v] w fun e w' => RetL scell 1 9 w l e w' := by
  obtain ⟨i0, hi, hz0, hz1, hz2⟩ := info_parts scell_info
  have hnil := fun (w : World) (a : Option Addr) (n c n' c' : Nat) => Lib.run_eql_slice_nil (P := Tryz.prog) w 26 9 a n c n' c' Tryz.underlying26
  rcases h.2 with ⟨rfl, hl0⟩ | ⟨g, cap, cur, rfl, _⟩
  · obtain rfl : l = [] := List.eq_nil_of_length_eq_zero hl0
    go_enter Tryz.func150, Tryz.ntmps150
    go_wp2
    go_ret
    exact ⟨_, rfl, OwnL.of_nil, (by repeat (first | exact Below.refl _ _ | refine Below.alloc ?_ (by first | omega | (simp; done) | (simp; omega)) _ | apply Below.drew | apply below_drewN | refine Below.setCell ?_ (by first | omega | (simp; done) | (simp; omega)) _ | refine Below.trans ?_ (Below.mono (by assumption) (by first | omega | (simp; done) | (simp; omega)))))⟩
  · go_enter Tryz.func150, Tryz.ntmps150
    go_wp2_with (at_builtin; refine wpList_appAll scell 1 scell_len _ rfl _ _ _ rfl w.heap.size B 9 9 i0 (.string .empty) 16 Tryz.underlying26 hi hz0 hz1 hz2 rfl (by omega) _ [] rfl (OwnL.of_empty w (Nat.le_refl _)) _ l rfl (h.alloc _) (by intro b u hu; simp [scell] at hu; subst hu; simp [Value.oneCell']) (by simp; omega) (by omega) (by simp) ?_; intro v' w2 how2 hg2)
    go_ret
    exact ⟨_, rfl, how2, own_grown_below (OwnL.of_empty (f := scell) (z := 1) (α := ByteArray) w (Nat.le_refl _)) (by repeat (first | exact Below.refl _ _ | refine Below.alloc ?_ (by first | omega | (simp; done) | (simp; omega)) _ | apply Below.drew | apply below_drewN | refine Below.setCell ?_ (by first | omega | (simp; done) | (simp; omega)) _ | refine Below.trans ?_ (Below.mono (by assumption) (by first | omega | (simp; done) | (simp; omega))))) hg2 (Nat.le_refl _) (by first | omega | (simp; done) | (simp; omega))⟩
set_option maxHeartbeats 1000000 in
theorem indexL_i (bx g c : Nat) (l : List ByteArray) (s0 : ByteArray) (w : World) (hm : l.length ≤ maxLen) (hbx : w.cell? ⟨bx, 0, none⟩ = some (.slice (some ⟨g, 0, none⟩) l.length c)) (h0 : l[0]? = some s0)
    (hc : ∀ k s, l[k]? = some s → w.cell? ⟨g, k, none⟩ = some (.string s)) :
    Calls Tryz.prog 178 #[.slice (some ⟨g, 0, none⟩) l.length c, .func (.func 153) #[] #[.pointer (some ⟨bx, 0, none⟩)]] w fun e w' => e = .returned (.int .i64 (idxN s0.size 0 l)) ∧ w = w' := by
  unfold maxLen at hm
  have hl0 : 0 < l.length := (List.getElem?_eq_some_iff.1 h0).1
  have p0 := hc 0 s0 h0
  have HC := Lib.hid hc
  clear h0 hc
  go_enter Tryz.func178, Tryz.ntmps178
  go_wp2
  go_loop [8] (fun i => ∃ k : Nat, k ≤ l.length ∧ i = .int .i64 k ∧ Hid (idxN s0.size 0 l = idxN s0.size k (l.drop k))) (fun i => l.length - (intOf i).toNat)
  case atStart => exact ⟨0, by omega, rfl, Lib.hid rfl⟩
  case round =>
    obtain ⟨k, hk, rfl, HK⟩ := hrel
    by_cases hlt : k < l.length
    · obtain ⟨s, hs⟩ : ∃ s, l[k]? = some s := ⟨l[k], List.getElem?_eq_getElem hlt⟩
      have pk := HC.out k s hs
      have HS := Lib.hid hs
      clear hs
      by_cases hsz : s.size = s0.size
      · have hd : ((s.size : Int) != (s0.size : Int)) = false := by simp [hsz]
        have HX := Lib.hid hsz
        clear hsz
        go_wp2
        go_round
        case rel => exact ⟨k + 1, by omega, by go_num, idx_yes HS.out HK HX.out⟩
        case measure => simp [intOf]; omega
      · have hd : ((s.size : Int) != (s0.size : Int)) = true := by simp; omega
        have HX := Lib.hid hsz
        clear hsz
        go_wp2
        go_ret
        exact ⟨ret_int (idx_no HS.out HK HX.out).symm, rfl⟩
    · go_wp2
      go_ret
      exact ⟨ret_int (by rw [HK.out, List.drop_of_length_le (by omega)]; rfl), rfl⟩
end Go.Proofs.YtddihmpiaemadaaGreatDoor
