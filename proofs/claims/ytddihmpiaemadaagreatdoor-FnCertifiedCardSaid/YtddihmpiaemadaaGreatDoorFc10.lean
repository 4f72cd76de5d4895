/- rowsOf: the walk. Contracts of the library over this program (printed by the kit, over the functions of this seat). topmost: the walk. l25Rows: the walk. Lists that are solved row by row: steps of the walk. l25Add: the walk. What the solving of rows hands back. -/
import Derived.Test.YtddihmpiaemadaaGreatDoorFc09
import Derived.Test.YtddihmpiaemadaaGreatDoorProg
import Derived.Shelf.Strconv.Itoa0
import Derived.StillTailTactics
namespace Go.Proofs.YtddihmpiaemadaaGreatDoor
set_option linter.unusedVariables false
set_option linter.unusedSimpArgs false
open Go.RowKit
theorem IntsAt.below {w w' : World} {v : Value} {l : List Int} (h : IntsAt w v l) (hb : Below w.heap.size w w') : IntsAt w' v l := by
  obtain ⟨A, c, rfl, hA⟩ := h
  refine ⟨A, c, rfl, ?_⟩
  rcases hA with hA | ⟨g, rfl, hg, hc⟩
  · exact .inl hA
  · exact .inr ⟨g, rfl, Nat.lt_of_lt_of_le hg hb.size, fun k x hk => (hb.cell (p := ⟨g, k, none⟩) hg).trans (hc k x hk)⟩
theorem crcl_i (l : List Nat) (v : Nat) (w : World) (hl : l.length ≤ 2097152) (hlb : ∀ x ∈ l, x < 256) (hv : v < 65536) :
    Calls Tryz.prog 85 #[.string (strN l), .int .i64 v] w fun e w' => e = .returned (.int .i64 (crcN l v)) ∧ w = w' := by
  have := crcn_i (strN l) v w (by rw [strN_size]; exact hl) hv
  rwa [bts_strN hlb] at this
theorem getD_some {l : List Nat} {k x : Nat} (h : l[k]? = some x) : l.getD k 0 = x := by rw [List.getD_eq_getElem?_getD, h]; rfl
set_option maxRecDepth 20000 in
set_option maxHeartbeats 8000000 in
theorem rows_i (s : ByteArray) (u : List Nat) (v : Value) (crc : Nat) (w : World) (h : IntsAt w v (intsN u)) (hu : ∀ b ∈ u, b < 8 * s.size) (hs : s.size ≤ 64) (hm : u.length ≤ 64) (hc : crc < 65536) :
    Calls Tryz.prog 146 #[.string s, v, .int .i64 crc] w fun e w' => RetL (rc .i64) 2 197 w (rowsR s.size u (crcN (clrN (bts s) u) 65535 ^^^ crc)) e w' := by
  obtain ⟨i0, hi, hz0, hz1, hz2⟩ := info_parts rowi_info
  have HI := Lib.hid h
  have HU := Lib.hid hu
  have HCL := Lib.hid (fun w' (hb : Below w.heap.size w w') => clear_i s u v w' (h.below hb) hu (by omega) (by omega))
  have HCR := Lib.hid (fun w' => crcl_i (clrN (bts s) u) 65535 w' (by rw [clrN_len, bts_len]; omega) (clrN_lt bts_lt) (by omega))
  have hcn := crcN_lt (clrN (bts s) u) 65535 (by omega)
  generalize crcN (clrN (bts s) u) 65535 = cn at *
  have hx := i64_xor_nat cn crc (by omega) (by omega)
  have hrl : cn ^^^ crc < 65536 := Nat.xor_lt_two_pow (n := 16) hcn hc
  generalize cn ^^^ crc = rest at *
  obtain ⟨A, cA, rfl, _⟩ := h
  simp only [intsN_len] at HCL ⊢
  clear hu
  go_enter Tryz.func146, Tryz.ntmps146
  go_wp2_with (at_make; refine wpList_make_full _ rfl _ _ _ rfl w.heap.size 197 i0 (.agg #[.int .u64 0, .int .i64 0]) 2 Tryz.underlying191 hi hz0 hz1 .i64 .i64 _ _ 16 rfl rfl rfl rfl (by rw [hz2]; omega) (by unfold maxLen; omega) (Nat.le_refl _) ?_; intro w1 hown hgrow)
  have hb0 : Below w.heap.size w w1 := (Below.refl _ _).grown hgrow (Nat.le_refl _) (by simp)
  rw [made_flat (f := rc .i64) (rc_len .i64) (by omega) (⟨0, false⟩ : Rw) (Value.agg #[.int .u64 0, .int .i64 0]).cells rfl] at hown
  have HO1 : Hid (RowL .i64 197 w.heap.size w1 (.slice (some ⟨w.heap.size, 0, none⟩) 16 16) (rowsB rest 0)) := Lib.hid hown
  clear hgrow hown
  go_wp2_with (fail)
  refine (HCL.out _ hb0).mono ?_; rintro e w2 ⟨rfl, hb2⟩
  go_wp2_with (fail)
  refine (HCR.out _).mono ?_; rintro e w3 ⟨rfl, rfl⟩
  have HO2 := Lib.hid (OwnL.below HO1.out hb2)
  have hb02 := hb0.trans (hb2.mono hb0.size)
  clear HO1 HCL HCR hb2 hb0
  go_wp2
  go_loopw [23] (fun i wr => ∃ k : Nat, k ≤ 16 ∧ i = .int .i64 k ∧ Below w.heap.size w wr ∧ Hid (RowL .i64 197 w.heap.size wr (.slice (some ⟨w.heap.size, 0, none⟩) 16 16) (rowsB rest k))) (fun i _ => 16 - (intOf i).toNat)
  case atStart => exact ⟨0, by omega, rfl, hb02, HO2⟩
  case round =>
    obtain ⟨k, hk, rfl, hb, HO⟩ := hrel
    by_cases hlt : k < 16
    · obtain ⟨j, hj⟩ : ∃ j, j + k = 15 := ⟨15 - k, by omega⟩
      have e1 : (15 : Int) - (k : Int) = (j : Int) := by omega
      have ej : 15 - k = j := by omega
      have hbv := i64_bit rest j (by omega)
      have hg := (World.ownsRow.lt HO.out _ rfl).2
      have q1 := OwnL.at1 (rc_len .i64) HO.out (rowsB_get hlt) (j := 1) rfl
      have z0 := fun j => OwnL.frozen (j := j) HO.out
      have HS := Lib.hid (OwnL.set1 (rc_len .i64) HO.out (rowsB_get hlt) (j := 1) (a' := ⟨0, rest.testBit (15 - k)⟩) (u := .int .i64 (bi (rest.testBit (15 - k)))) (by omega) rfl)
      rw [rowsB_set, ej] at HS
      clear ej
      go_wp2
      go_roundw
      case rel => exact ⟨k + 1, by omega, by go_num, (by repeat (first | exact Below.refl _ _ | refine Below.alloc ?_ (by first | omega | (simp; done) | (simp; omega)) _ | apply Below.drew | apply below_drewN | refine Below.setCell ?_ (by first | omega | (simp; done) | (simp; omega)) _ | refine Below.trans ?_ (Below.mono (by assumption) (by first | omega | (simp; done) | (simp; omega))))), HS⟩
      case measure => simp [intOf]; omega
    · obtain rfl : k = 16 := by omega
      rw [rowsB_end s.size u] at HO
      have hbo := hb
      generalize hwo : wr = wo at *; clear hwo
      clear HO2 hb02
      go_wp2
      go_loopw [38] (fun i wr => ∃ k : Nat, k ≤ u.length ∧ i = .int .i64 k ∧ Below w.heap.size w wr ∧ Hid (RowL .i64 197 w.heap.size wr (.slice (some ⟨w.heap.size, 0, none⟩) 16 16) (rowsP s.size u rest k 0))) (fun i _ => u.length - (intOf i).toNat)
      case atStart => exact ⟨0, by omega, rfl, hbo, HO⟩
      case round =>
        clear HO hbo
        obtain ⟨k, hk, rfl, hb, HO⟩ := hrel
        by_cases hltk : k < u.length
        · obtain ⟨b, hbk⟩ : ∃ b, u[k]? = some b := ⟨u[k], List.getElem?_eq_getElem hltk⟩
          have hbs := HU.out b (List.mem_of_getElem? hbk)
          have HB := Lib.hid (getD_some hbk)
          obtain ⟨A', c', hv, hA⟩ := HI.out
          injection hv with hv _ hcap
          subst hcap
          obtain ⟨g, hg1, hg, hcc⟩ := hA.resolve_left (by intro h0; have := congrArg List.length h0; rw [intsN_len] at this; simp only [List.length_nil] at this; omega)
          rw [hg1] at hv
          subst hv
          have pk := (hb.cell (p := ⟨g, k, none⟩) hg).trans (hcc k _ (intsN_get hbk))
          have HE := Lib.hid (fun w' => eff_i s.size b w' hs hbs)
          have hel := effN_lt s.size b
          have HM1 := Lib.hid (fun i hi => maskR_yes (n := s.size) (i := i) HB.out hi)
          have HM0 := Lib.hid (fun i hi => maskR_no (n := s.size) (i := i) HB.out hi)
          generalize effN s.size b = ef at *
          clear hcc hbk HB hg1 hA
          go_wp2_with (fail)
          refine (HE.out _).mono ?_; rintro e w4 ⟨rfl, hb4⟩
          have HO4 := Lib.hid (OwnL.below HO.out hb4)
          have hb04 := hb.trans (hb4.mono hb.size)
          clear HO hb hb4 HE pk
          go_wp2
          go_loopw [49] (fun i wr => ∃ j : Nat, j ≤ 16 ∧ i = .int .i64 j ∧ Below w.heap.size w wr ∧ Hid (RowL .i64 197 w.heap.size wr (.slice (some ⟨w.heap.size, 0, none⟩) 16 16) (rowsP s.size u rest k j))) (fun i _ => 16 - (intOf i).toNat)
          case atStart => exact ⟨0, by omega, rfl, hb04, HO4⟩
          case round =>
            clear HO4 hb04
            obtain ⟨i, hi2, rfl, hb, HO⟩ := hrel
            by_cases hlt : i < 16
            · obtain ⟨j, hj⟩ : ∃ j, j + i = 15 := ⟨15 - i, by omega⟩
              have e1 : (15 : Int) - (i : Int) = (j : Int) := by omega
              have ej : 15 - i = j := by omega
              have hbv := i64_bit ef j (by omega)
              cases hbit : ef.testBit j
              · rw [hbit, bi_f] at hbv
                have HM := Lib.hid (rowsP_same (rest := rest) (HM0.out i (by rw [ej]; exact hbit)))
                clear ej
                go_wp2
                go_roundw
                case rel => exact ⟨i + 1, by omega, by go_num, hb, by rw [HM.out]; exact HO⟩
                case measure => simp [intOf]; omega
              · rw [hbit, bi_t] at hbv
                have hg3 := (World.ownsRow.lt HO.out _ rfl).2
                have q1 := OwnL.at1 (rc_len .i64) HO.out (rowsP_get hlt) (j := 0) rfl
                have z0 := fun j => OwnL.frozen (j := j) HO.out
                have HS := Lib.hid (OwnL.set1 (rc_len .i64) HO.out (rowsP_get hlt) (j := 0) (a' := ⟨maskR s.size u i (k + 1), rest.testBit (15 - i)⟩) (u := .int .u64 (maskR s.size u i (k + 1) : Nat)) (by omega) rfl)
                rw [rowsP_set] at HS
                simp only [Nat.add_zero] at HS
                have hmb := maskR_64 s.size u i (K := k) (by omega)
                have hpw : 2 ^ k < 18446744073709551616 := Nat.lt_of_lt_of_le (Nat.pow_lt_pow_right (by omega) (by omega : k < 64)) (by decide)
                have hor := u64_or_nat (maskR s.size u i k) (2 ^ k) hmb hpw
                rw [← HM1.out i (by rw [ej]; exact hbit)] at hor
                rw [← wrap_pow k (by omega)] at hor
                generalize maskR s.size u i (k + 1) = m1 at *
                generalize maskR s.size u i k = m0 at *
                have r1 : wr.drew.cell? ⟨w.heap.size, i * 2, none⟩ = some (.int .u64 (m0 : Nat)) := by simpa using q1
                have r0 := fun j => (show wr.drew.frozen? ⟨w.heap.size, j, none⟩ = false from z0 j)
                clear ej q1 z0
                go_wp2
                go_still_tail 10, (by kernel_rfl)
                go_wp2
                go_roundw
                case rel => exact ⟨i + 1, by omega, by go_num, (by repeat (first | exact Below.refl _ _ | refine Below.alloc ?_ (by first | omega | (simp; done) | (simp; omega)) _ | apply Below.drew | apply below_drewN | refine Below.setCell ?_ (by first | omega | (simp; done) | (simp; omega)) _ | refine Below.trans ?_ (Below.mono (by assumption) (by first | omega | (simp; done) | (simp; omega))))), Lib.hid (OwnL.below HS.out ((Qt.refl _).drew.below _))⟩
                case measure => simp [intOf]; omega
            · obtain rfl : i = 16 := by omega
              rw [rowsP_all] at HO
              go_wp2
              go_roundw
              case rel => (repeat apply Exists.intro); exact ⟨⟨k + 1, by omega, by go_num, hb, HO⟩, rfl⟩
              case measure => simp [intOf]; omega
        · obtain rfl : k = u.length := by omega
          rw [rowsP_end] at HO
          go_wp2
          go_ret
          exact ⟨_, rfl, HO.out, hb⟩
end Go.Proofs.YtddihmpiaemadaaGreatDoor
namespace Go.Proofs
open Go.Shelf
def Tryz.lays129_ren : Go.Shelf.Ren := ⟨fun | 129 => 111 | n => n, fun | 53 => 84 | 3 => 3 | 4 => 4 | 46 => 133 | 5 => 5 | 9 => 9 | n => n, fun | n => n⟩
theorem Tryz.lays129 : Go.Proofs.Lays.n129 Tryz.prog Tryz.lays129_ren := {
  mixed := by kernel_rfl
  f129 := Tryz.func111.trans (congrArg some (by kernel_rfl))
  t3 := Tryz.underlying3
  a3 := Tryz.isAgg3
  z3 := Tryz.sizeOf3
  v3 := Tryz.zeroValue3
  t4 := Tryz.underlying4
  a4 := Tryz.isAgg4
  z4 := Tryz.sizeOf4
  v4 := Tryz.zeroValue4
  t5 := Tryz.underlying5
  a5 := Tryz.isAgg5
  z5 := Tryz.sizeOf5
  v5 := Tryz.zeroValue5
  t9 := Tryz.underlying9
  a9 := Tryz.isAgg9
  z9 := Tryz.sizeOf9
  v9 := Tryz.zeroValue9
  t46 := Tryz.underlying133
  a46 := Tryz.isAgg133
  z46 := Tryz.sizeOf133
  v46 := Tryz.zeroValue133
  t53 := Tryz.underlying84
  a53 := Tryz.isAgg84
  z53 := Tryz.sizeOf84
  v53 := Tryz.zeroValue84 }
/-- bits.Len64: "Len64 returns the minimum number of bits required to represent x; the result is 0 for x == 0.": IT RETURNS 'Lib.bitLen x'; the world is as it was. ('h0', 'h1': x is a uint64.) (LAID: no walk: one application.) -/
theorem Tryz.bits_Len64 (x : Int) (w : World) (h0 : 0 ≤ x) (h1 : x ≤ 18446744073709551615) :
    Calls Tryz.prog 111 #[.int .u64 x] w fun e w' => e = .returned (.int .i64 (Lib.bitLen x.toNat)) ∧ w' = w := Any.bits_Len64 Tryz.lays129 x w h0 h1
end Go.Proofs
namespace Go.Proofs.YtddihmpiaemadaaGreatDoor
set_option linter.unusedVariables false
set_option linter.unusedSimpArgs false
open Go.RowKit
theorem bitLen_top (m : Nat) (h0 : m ≠ 0) (h : m < 18446744073709551616) : Lib.bitLen m = top m + 1 := by
  induction m using Nat.strongRecOn with
  | _ m ih =>
    rw [Lib.bitLen_half m h0 h]
    unfold top
    rw [Nat.log2_def]
    by_cases h2 : 2 ≤ m
    · rw [if_pos h2, ih (m / 2) (by omega) (by omega) (by omega)]
      show 1 + (top (m / 2) + 1) = top (m / 2) + 1 + 1
      omega
    · rw [if_neg h2]
      obtain rfl : m = 1 := by omega
      rfl
theorem top_lt {m : Nat} (h0 : m ≠ 0) (h : m < 18446744073709551616) : top m < 64 := by
  apply Classical.byContradiction; intro hk
  have := top_on m h0
  rw [Nat.testBit_lt_two_pow (Nat.lt_of_lt_of_le (show m < 2 ^ 64 from h) (Nat.pow_le_pow_right (by omega) (by omega)))] at this; cases this
set_option maxHeartbeats 1000000 in
theorem top_i (m : Nat) (w : World) (h0 : m ≠ 0) (h : m < 18446744073709551616) :
    Calls Tryz.prog 147 #[.int .u64 m] w fun e w' => e = .returned (.int .u64 ((2 ^ top m : Nat) : Int)) ∧ w = w' := by
  have HL := Lib.hid (Tryz.bits_Len64 (m : Int) w (by omega) (by omega))
  rw [Int.toNat_natCast, bitLen_top m h0 h] at HL
  have ht := top_lt h0 h
  generalize top m = t at *
  have HW := Lib.hid (wrap_pow t ht)
  have e1 : ((t + 1 : Nat) : Int) - 1 = (t : Int) := by omega
  go_enter Tryz.func147, Tryz.ntmps147
  go_wp2_with (fail)
  refine HL.out.mono ?_; rintro e w1 ⟨rfl, rfl⟩
  go_wp2
  go_ret
  exact ⟨ret_int HW.out, rfl⟩
end Go.Proofs.YtddihmpiaemadaaGreatDoor
namespace Go.Proofs.YtddihmpiaemadaaGreatDoor
set_option linter.unusedVariables false
set_option linter.unusedSimpArgs false
open Go.RowKit
end Go.Proofs.YtddihmpiaemadaaGreatDoor
namespace Go.Proofs.YtddihmpiaemadaaGreatDoor
set_option linter.unusedVariables false
set_option linter.unusedSimpArgs false
open Go.RowKit
theorem region_s0 {P : Program} {id : Nat} {Q : Exit → Act → World → Prop} {a : Act} {w : World} {ops : Array Oper} (hm : P.follows .mixedOrders = true) (hB : Region.lexB .any ops = true)
    (h : ∀ w6, w6 = w.drew → wpStill P ops w6 (fun a' => Q .normal a' w6) ops.toList a) : (Code.region id ops true).wp P Q a w := wp_region_still hm hB (h _ rfl)
theorem still_c {P : Program} {f : FuncId} {args : Array Value} {w : World} {v : Value} (h : Calls P f args w fun e w' => e = .returned v ∧ w = w') : Calls P f args w fun e w' => e = .returned v ∧ w' = w :=
  h.mono fun _ _ ⟨a, b⟩ => ⟨a, b.symm⟩
theorem box2 (w : World) (a b : Value) (e : TypeId) : (w.alloc (.cells #[a, b] e)).drew.cell? ⟨w.heap.size, 0, none⟩ = some a ∧ (w.alloc (.cells #[a, b] e)).drew.cell? ⟨w.heap.size, 1, none⟩ = some b ∧ (w.alloc (.cells #[a, b] e)).drew.frozen? ⟨w.heap.size, 0, none⟩ = false ∧ (w.alloc (.cells #[a, b] e)).drew.frozen? ⟨w.heap.size, 1, none⟩ = false ∧ Below w.heap.size w (w.alloc (.cells #[a, b] e)).drew ∧ w.heap.size < (w.alloc (.cells #[a, b] e)).drew.heap.size := by
  refine ⟨?_, ?_, ?_, ?_, (Below.alloc (Below.refl _ _) (Nat.le_refl _) _).drew, by simp⟩ <;> simp [go_sem]
theorem redI_cons {p : Nat → Nat} {ol rs : List Rw} {r r' : Rw} (h : ol.foldl (clr p) r = r') : redI p ol (r :: rs) = if r'.m = 0 then (if r'.r then none else redI p ol rs) else redI p (ol.map (fun k => clr (fun _ => p r'.m) k r') ++ [r']) rs := by rw [redI, h]
theorem rd_none {p : Nat → Nat} {ol l : List Rw} {k : Nat} {r r' : Rw} {X : Option (List Rw)} (hg : l[k]? = some r) (H : Hid (X = redI p ol (l.drop k))) (h : ol.foldl (clr p) r = r') (h0 : r'.m = 0) (h1 : r'.r = true) : X = none := by
  obtain ⟨hk, rfl⟩ := List.getElem?_eq_some_iff.1 hg
  rw [H.out, List.drop_eq_getElem_cons hk, redI_cons h, if_pos h0, if_pos h1]
theorem rd_skip {p : Nat → Nat} {ol l : List Rw} {k : Nat} {r r' : Rw} {X : Option (List Rw)} (hg : l[k]? = some r) (H : Hid (X = redI p ol (l.drop k))) (h : ol.foldl (clr p) r = r') (h0 : r'.m = 0) (h1 : r'.r = false) : Hid (X = redI p ol (l.drop (k + 1))) := by
  obtain ⟨hk, rfl⟩ := List.getElem?_eq_some_iff.1 hg
  exact Lib.hid (by rw [H.out, List.drop_eq_getElem_cons hk, redI_cons h, if_pos h0, if_neg (by rw [h1]; decide)])
theorem rd_more {p : Nat → Nat} {ol l : List Rw} {k : Nat} {r r' : Rw} {X : Option (List Rw)} (hg : l[k]? = some r) (H : Hid (X = redI p ol (l.drop k))) (h : ol.foldl (clr p) r = r') (h0 : r'.m ≠ 0) : Hid (X = redI p (ol.map (fun k => clr (fun _ => p r'.m) k r') ++ [r']) (l.drop (k + 1))) := by
  obtain ⟨hk, rfl⟩ := List.getElem?_eq_some_iff.1 hg
  exact Lib.hid (by rw [H.out, List.drop_eq_getElem_cons hk, redI_cons h, if_neg h0])
theorem rd_end {p : Nat → Nat} {ol l : List Rw} {k : Nat} {X : Option (List Rw)} (hk : l.length ≤ k) (H : Hid (X = redI p ol (l.drop k))) : X = some ol := by
  rw [H.out, List.drop_of_length_le hk, redI]
theorem fo_yes {p : Nat → Nat} {ol : List Rw} {j : Nat} {r kn : Rw} {X : Rw} (hj : ol[j]? = some kn) (H : Hid (X = (ol.drop j).foldl (clr p) r)) (h : r.m.testBit (p kn.m) = true) : Hid (X = (ol.drop (j + 1)).foldl (clr p) (r.add kn)) := by
  obtain ⟨hk, rfl⟩ := List.getElem?_eq_some_iff.1 hj
  exact Lib.hid (by rw [H.out, List.drop_eq_getElem_cons hk, List.foldl_cons, clr, if_pos h])
theorem fo_no {p : Nat → Nat} {ol : List Rw} {j : Nat} {r kn : Rw} {X : Rw} (hj : ol[j]? = some kn) (H : Hid (X = (ol.drop j).foldl (clr p) r)) (h : r.m.testBit (p kn.m) = false) : Hid (X = (ol.drop (j + 1)).foldl (clr p) r) := by
  obtain ⟨hk, rfl⟩ := List.getElem?_eq_some_iff.1 hj
  exact Lib.hid (by rw [H.out, List.drop_eq_getElem_cons hk, List.foldl_cons, clr, if_neg (by rw [h]; decide)])
theorem fo_end {p : Nat → Nat} {ol : List Rw} {j : Nat} {r : Rw} {X : Rw} (hk : ol.length ≤ j) (H : Hid (X = (ol.drop j).foldl (clr p) r)) : X = r := by
  rw [H.out, List.drop_of_length_le hk]; rfl
/-- the first j elements turned -/
def mapT (F : Rw → Rw) (j : Nat) (l : List Rw) : List Rw := (l.take j).map F ++ l.drop j
theorem mapT_get {F : Rw → Rw} {j : Nat} {l : List Rw} {a : Rw} (h : l[j]? = some a) : (mapT F j l)[j]? = some a := by
  obtain ⟨hk, rfl⟩ := List.getElem?_eq_some_iff.1 h
  unfold mapT
  rw [List.getElem?_append_right (by simp; omega)]
  simp
  rw [show j - min j l.length = 0 by omega]; simp [hk]
theorem mapT_next {F : Rw → Rw} {j : Nat} {l : List Rw} {a : Rw} (h : l[j]? = some a) : (mapT F j l).set j (F a) = mapT F (j + 1) l := by
  obtain ⟨hk, rfl⟩ := List.getElem?_eq_some_iff.1 h
  unfold mapT
  have hm : ((l.take j).map F).length = j := by simp; omega
  rw [List.set_append_right _ _ (by omega), hm, Nat.sub_self, List.drop_eq_getElem_cons hk, List.set_cons_zero, List.take_succ_eq_append_getElem hk, List.map_append, List.append_assoc]; rfl
theorem mapT_same {F : Rw → Rw} {j : Nat} {l : List Rw} {a : Rw} (h : l[j]? = some a) (hF : F a = a) : mapT F (j + 1) l = mapT F j l := by
  rw [← mapT_next h, hF]
  have h2 := mapT_get (F := F) h
  obtain ⟨h3, h4⟩ := List.getElem?_eq_some_iff.1 h2
  conv => lhs; arg 3; rw [← h4]
  rw [List.set_getElem_self]
theorem mapT_zero (F : Rw → Rw) (l : List Rw) : mapT F 0 l = l := by simp [mapT]
theorem mapT_end (F : Rw → Rw) (l : List Rw) : mapT F l.length l = l.map F := by simp [mapT]
theorem OwnL.set2 {κ : IntKind} {e : TypeId} {B g n c k : Nat} {w : World} {l : List Rw} {a a' : Rw} (h : OwnL (rc κ) 2 e B w (.slice (some ⟨g, 0, none⟩) n c) l) (hk : l[k]? = some a) :
    OwnL (rc κ) 2 e B ((w.setCell ⟨g, k * 2, none⟩ (.int .u64 a'.m)).setCell ⟨g, k * 2 + 1, none⟩ (.int κ (bi a'.r))) (.slice (some ⟨g, 0, none⟩) n c) (l.set k a') := by
  have h1 := OwnL.set1 (rc_len κ) h hk (j := 0) (a' := ⟨a'.m, a.r⟩) (u := .int .u64 a'.m) (by omega) rfl
  have hl := (List.getElem?_eq_some_iff.1 hk).1
  have h2 := OwnL.set1 (rc_len κ) h1 (k := k) (a := ⟨a'.m, a.r⟩) (by rw [List.getElem?_set_self hl]) (j := 1) (a' := a') (u := .int κ (bi a'.r)) (by omega) rfl
  rw [List.set_set] at h2
  exact h2
theorem xor64 {a b : Nat} (ha : a < 18446744073709551616) (hb : b < 18446744073709551616) : a ^^^ b < 18446744073709551616 := Nat.xor_lt_two_pow (n := 64) ha hb
end Go.Proofs.YtddihmpiaemadaaGreatDoor
namespace Go.Proofs.YtddihmpiaemadaaGreatDoor
set_option linter.unusedVariables false
set_option linter.unusedSimpArgs false
open Go.RowKit
end Go.Proofs.YtddihmpiaemadaaGreatDoor
namespace Go.Proofs.YtddihmpiaemadaaGreatDoor
set_option linter.unusedVariables false
set_option linter.unusedSimpArgs false
open Go.RowKit
def redQ (e : TypeId) (κ : IntKind) (w : World) (X : Option (List Rw)) (r : Ending) (w' : World) : Prop := ∃ v', r = .returned (.tuple #[v', .bool X.isSome]) ∧ RowL κ e w.heap.size w' v' (X.getD []) ∧ Below w.heap.size w w'
end Go.Proofs.YtddihmpiaemadaaGreatDoor
