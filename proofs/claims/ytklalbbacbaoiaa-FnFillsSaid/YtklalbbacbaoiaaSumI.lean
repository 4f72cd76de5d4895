/- isSum: the walk. -/
import Derived.Test.YtklalbbacbaoiaaRowI
import Derived.Test.YtklalbbacbaoiaaFillB
namespace Go.Proofs.Ytklalbbacbaoiaa
set_option linter.unusedVariables false
open Go.RowKit
/-- a slice, at whatever place, that reads as the numbers l -/
def ReadN (w : World) (v : Value) (l : List Nat) : Prop := ∃ A c, v = .slice A l.length c ∧ (l = [] ∨ ∃ g o, A = some ⟨g, o, none⟩ ∧ g < w.heap.size ∧ ∀ k x : Nat, l[k]? = some x → w.cell? ⟨g, o + k, none⟩ = some (.int .i64 (x : Int)))
theorem min_nat (a b : Nat) : min (a : Int) (b : Int) = ((min a b : Nat) : Int) := by omega
def stepM (y b : Nat) : Nat := min y (y ^^^ b)
theorem redM_eq (base : List Nat) (y : Nat) : redM base y = base.foldl stepM y := rfl
theorem fm_next {l : List Nat} {j b y X : Nat} (hb : l[j]? = some b) (H : Hid (X = (l.drop j).foldl stepM y)) : Hid (X = (l.drop (j + 1)).foldl stepM (stepM y b)) := by
  obtain ⟨hk, rfl⟩ := List.getElem?_eq_some_iff.1 hb
  exact Lib.hid (by rw [H.out, List.drop_eq_getElem_cons hk, List.foldl_cons])
theorem fm_end {l : List Nat} {j y X : Nat} (hk : l.length ≤ j) (H : Hid (X = (l.drop j).foldl stepM y)) : X = y := by
  rw [H.out, List.drop_of_length_le hk]; rfl
theorem ba_next {l base X : List Nat} {k y : Nat} (hy : l[k]? = some y) (H : Hid (X = (l.drop k).foldl addM base)) : Hid (X = (l.drop (k + 1)).foldl addM (addM base y)) := by
  obtain ⟨hk, rfl⟩ := List.getElem?_eq_some_iff.1 hy
  exact Lib.hid (by rw [H.out, List.drop_eq_getElem_cons hk, List.foldl_cons])
theorem ba_end {l base X : List Nat} {k : Nat} (hk : l.length ≤ k) (H : Hid (X = (l.drop k).foldl addM base)) : X = base := by
  rw [H.out, List.drop_of_length_le hk]; rfl
theorem stepM_lt {y b : Nat} (hy : y < 65536) : stepM y b < 65536 := Nat.lt_of_le_of_lt (Nat.min_le_left _ _) hy
theorem intsN_app (u : List Nat) (b : Nat) : intsN (u ++ [b]) = intsN u ++ [(b : Int)] := by simp [intsN]
theorem ints_cell {B g n c k b : Nat} {w : World} {u : List Nat} (h : Int64L B w (.slice (some ⟨g, 0, none⟩) n c) (intsN u)) (hk : u[k]? = some b) : w.cell? ⟨g, k, none⟩ = some (.int .i64 (b : Int)) := by
  have := OwnL.at1 icell_len h (intsN_get hk) (j := 0) rfl
  simpa using this
theorem ints_shape {B : Nat} {w : World} {v : Value} {u : List Nat} (h : Int64L B w v (intsN u)) : ∃ A c, v = .slice A u.length c ∧ (u = [] ∨ ∃ g, A = some ⟨g, 0, none⟩ ∧ B ≤ g ∧ g < w.heap.size) := by
  obtain ⟨A, c, rfl, hA⟩ := h.shape
  refine ⟨A, c, by rw [intsN_len], hA.imp (fun h => ?_) id⟩
  have := congrArg List.length h
  rw [intsN_len] at this
  exact List.eq_nil_of_length_eq_zero this
set_option maxRecDepth 20000 in
set_option maxHeartbeats 4000000 in
theorem sum_i (x : Nat) (l : List Nat) (v : Value) (w : World) (h : ReadN w v l) (hx : x < 65536) (hl : ∀ y ∈ l, y < 65536) (hn : l.length ≤ 65536) :
    Calls Try.prog 66 #[.int .i64 x, v] w fun e w' => e = .returned (.bool (isSumR x l)) ∧ Below w.heap.size w w' := by
  obtain ⟨i0, hi, hz0, hz1, hz2⟩ := info_parts icell_info
  have HL := Lib.hid hl
  obtain ⟨A, cA, rfl, hA⟩ := h
  clear hl
  go_enter Try.func66, Try.ntmps66
  go_wp2
  go_loopw [14, 5] (fun i bv wr => ∃ (k : Nat) (base : List Nat), k ≤ l.length ∧ i = .int .i64 k ∧ base.length ≤ k ∧ Below w.heap.size w wr ∧ Hid (Int64L w.heap.size wr bv (intsN base)) ∧ Hid (∀ y ∈ base, y < 65536) ∧ Hid (baseM l = (l.drop k).foldl addM base)) (fun i _ _ => l.length - (intOf i).toNat)
  case atStart => exact ⟨0, [], by omega, rfl, by simp, Below.refl _ _, Lib.hid OwnL.of_nil, Lib.hid (by intro y h; cases h), Lib.hid rfl⟩
  case round =>
    obtain ⟨k, base, hk, rfl, hbk, hb, HO, HB, HK⟩ := hrel
    have zr := hb.size
    obtain ⟨Ab, cb, rfl, hAb⟩ := ints_shape HO.out
    by_cases hlt : k < l.length
    · obtain ⟨y0, hy0⟩ : ∃ y, l[k]? = some y := ⟨l[k], List.getElem?_eq_getElem hlt⟩
      obtain ⟨g, o, rfl, hg, hc⟩ := hA.resolve_left (by intro h0; rw [h0] at hlt; simp at hlt)
      have p0 := (hb.cell (p := ⟨g, o + k, none⟩) hg).trans (hc k y0 hy0)
      have hy1 := HL.out y0 (List.mem_of_getElem? hy0)
      have HN := ba_next hy0 HK
      clear hy0 hc HK
      go_wp2
      go_loop [20, 7] (fun i yv => ∃ j y : Nat, j ≤ base.length ∧ i = .int .i64 j ∧ yv = .int .i64 y ∧ y < 65536 ∧ Hid (redM base y0 = (base.drop j).foldl stepM y)) (fun i _ => base.length - (intOf i).toNat)
      case atStart => exact ⟨0, y0, by omega, rfl, rfl, hy1, Lib.hid rfl⟩
      case round =>
        obtain ⟨j, y, hj, rfl, rfl, hy, HR⟩ := hrel
        by_cases hltj : j < base.length
        · obtain ⟨b, hbj⟩ : ∃ b, base[j]? = some b := ⟨base[j], List.getElem?_eq_getElem hltj⟩
          obtain ⟨gb, rfl, _, hgb⟩ := hAb.resolve_left (by intro h0; rw [h0] at hltj; simp at hltj)
          have q0 := ints_cell HO.out hbj
          have hb6 := HB.out b (List.mem_of_getElem? hbj)
          have hxo := i64_xor_nat y b (by omega) (by omega)
          have hmn := min_nat y (y ^^^ b)
          have HN2 := fm_next hbj HR
          have hst := stepM_lt (b := b) hy
          clear hbj HR
          go_wp2
          go_round
          case rel => exact ⟨j + 1, stepM y b, by omega, by go_num, by unfold stepM; first | rfl | (rw [← hmn]; done) | simp [hmn], hst, HN2⟩
          case measure => simp [intOf]; omega
        · have HE := fm_end (by omega) HR
          by_cases hyz : y = 0
          · subst hyz
            have ha : addM base y0 = base := by unfold addM; rw [if_pos HE]
            rw [ha] at HN
            clear HE ha
            go_wp2
            go_roundw
            case rel => exact ⟨k + 1, base, by omega, by go_num, by omega, hb, HO, HB, HN⟩
            case measure => simp [intOf]; omega
          · have ha : addM base y0 = base ++ [y] := by unfold addM; rw [if_neg (by rw [HE]; exact hyz), HE]
            rw [ha] at HN
            have hyb : ((y : Int) != 0) = true := by rw [bne_iff_ne]; omega
            have hbl : (intsN base).length + 1 ≤ 16777216 := by rw [intsN_len]; omega
            have hby : (8 : Nat) ≤ 4096 := by decide
            have hbase : w.heap.size ≤ (wr.alloc (.cells #[.int .i64 (y : Int)] 2)).heap.size := by simp; omega
            clear HE ha
            go_wp2_with (at_builtin; refine wpList_app1 icell 1 icell_len _ rfl _ _ _ rfl w.heap.size 2 i0 (.int .i64 0) 8 Try.underlying34 hi hz0 hz1 hz2 rfl (by decide) _ (intsN base) rfl (HO.out.alloc _) _ 1 (y : Int) rfl ?_ (by simp [icell, Value.oneCell']) hbl hby hbase ?_; (· intro j u hu; cases j with | zero => (simp [icell] at hu; subst hu; simp) | succ j => simp [icell] at hu); intro v' w8 how8 hg8; have hg8' : Below w.heap.size w w8 := own_grown_below (HO.out.alloc (.cells #[.int .i64 (y : Int)] 2)) (Below.alloc hb zr _) hg8 (Nat.le_refl _) hbase; clear hg8)
            go_roundw
            case rel => exact ⟨k + 1, base ++ [y], by omega, by go_num, by simp; omega, hg8', by rw [intsN_app]; exact Lib.hid how8, Lib.hid (fun z hz => by
              rcases List.mem_append.1 hz with hz | hz
              · exact HB.out z hz
              · obtain rfl : z = y := by simpa using hz
                exact hy), HN⟩
            case measure => simp [intOf]; omega
    · have HE := Lib.hid (ba_end (by omega) HK)
      go_wp2
      go_loop [39, 0] (fun i yv => ∃ j y : Nat, j ≤ base.length ∧ i = .int .i64 j ∧ yv = .int .i64 y ∧ y < 65536 ∧ Hid (redM base x = (base.drop j).foldl stepM y)) (fun i _ => base.length - (intOf i).toNat)
      case atStart => exact ⟨0, x, by omega, rfl, rfl, hx, Lib.hid rfl⟩
      case round =>
        obtain ⟨j, y, hj, rfl, rfl, hy, HR⟩ := hrel
        by_cases hltj : j < base.length
        · obtain ⟨b, hbj⟩ : ∃ b, base[j]? = some b := ⟨base[j], List.getElem?_eq_getElem hltj⟩
          obtain ⟨gb, rfl, _, hgb⟩ := hAb.resolve_left (by intro h0; rw [h0] at hltj; simp at hltj)
          have q0 := ints_cell HO.out hbj
          have hb6 := HB.out b (List.mem_of_getElem? hbj)
          have hxo := i64_xor_nat y b (by omega) (by omega)
          have hmn := min_nat y (y ^^^ b)
          have HN2 := fm_next hbj HR
          have hst := stepM_lt (b := b) hy
          clear hbj HR
          go_wp2
          go_round
          case rel => exact ⟨j + 1, stepM y b, by omega, by go_num, by unfold stepM; first | rfl | (rw [← hmn]; done) | simp [hmn], hst, HN2⟩
          case measure => simp [intOf]; omega
        · have HR2 := Lib.hid (fm_end (by omega) HR)
          have hd : ((y : Int) == 0) = (y == 0) := by
            rw [Bool.eq_iff_iff, beq_iff_eq, beq_iff_eq]; omega
          go_wp2
          go_ret
          exact ⟨ret_bool (by unfold isSumR; (rw [HE.out, HR2.out]) <;> first | rfl | exact hd.symm | exact hd), hb⟩
end Go.Proofs.Ytklalbbacbaoiaa
