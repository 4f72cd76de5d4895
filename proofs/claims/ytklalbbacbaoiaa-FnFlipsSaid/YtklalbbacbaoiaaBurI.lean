/- BurstsOf, impl: the walk. -/
import Derived.Test.YtklalbbacbaoiaaBurP
import Derived.Test.YtklalbbacbaoiaaSumI
import Derived.Test.YtklalbbacbaoiaaIntsMade
import Derived.Test.YtklalbbacbaoiaaFindF
namespace Go.Proofs.Ytklalbbacbaoiaa
set_option linter.unusedVariables false
open Go.RowKit
def burE (s : ByteArray) (c L : Int) : List Int × Int := if inB s.size 1 64 && inB c 0 65535 then (if inB L 1 16 then (intsN (bur (bts s) c.toNat L.toNat (8 * s.size)), 0) else ([], 2)) else ([], 1)
theorem burE_len (s : ByteArray) (c L : Int) : (burE s c L).1.length ≤ 512 := by
  unfold burE
  split
  · rename_i h
    rw [Bool.and_eq_true] at h
    have h1 := inB_yes h.1
    split
    · rw [intsN_len]; have := bur_len (bts s) c.toNat L.toNat (8 * s.size); omega
    · simp
  · simp
/-- the effects of the bits, k of them known -/
def effK (n k : Nat) : List Nat := (List.range (8 * n)).map fun j => if j < k then effN n j else 0
theorem effK_len (n k : Nat) : (effK n k).length = 8 * n := by simp [effK]
theorem effK_zero (n : Nat) : intsN (effK n 0) = List.replicate (8 * n) 0 := by
  apply List.ext_getElem (by simp [intsN, effK])
  intro i h1 h2; simp [intsN, effK]
theorem effK_set {n k : Nat} : (intsN (effK n k)).set k (effN n k : Int) = intsN (effK n (k + 1)) := by
  unfold intsN
  rw [show (effN n k : Int) = (fun i : Nat => (i : Int)) (effN n k) from rfl, ← List.map_set]
  congr 1
  exact map_range_set (by simp) fun j hj hne => by
    by_cases h : j < k
    · rw [if_pos h, if_pos (by omega)]
    · rw [if_neg h, if_neg (by omega)]
theorem effK_get {n j : Nat} (h : j < 8 * n) : (effK n (8 * n))[j]? = some (effN n j) := by
  simp only [effK, List.getElem?_map, List.getElem?_range h, Option.map_some, if_pos h]
theorem effK_at {n k : Nat} (h : k < 8 * n) : (effK n k)[k]? = some 0 := by
  simp only [effK, List.getElem?_map, List.getElem?_range h, Option.map_some, if_neg (Nat.lt_irrefl k)]
theorem winU_eff {n bit L k x : Nat} (h : ((winU (8 * n) bit L).map (effN n))[k]? = some x) : (effK n (8 * n))[bit + 1 + k]? = some x := by
  have hk := (List.getElem?_eq_some_iff.1 h).1
  rw [List.length_map, winU_len] at hk
  rw [effK_get (by omega)]
  unfold winU at h
  rw [List.getElem?_map, List.getElem?_range' (by omega)] at h
  simpa using h
theorem winU_nil {n bit L : Nat} (h : n = bit + 1) : winU n bit L = [] := by
  apply List.eq_nil_of_length_eq_zero; rw [winU_len]; omega
set_option maxRecDepth 20000 in
set_option maxHeartbeats 4000000 in
theorem bur_i (s : ByteArray) (c L : Int) (w : World) (hs : s.size ≤ 1048576) :
    Calls Try.prog 25 #[.string s, .int .i64 c, .int .i64 L] w fun e w' => RInt64S.retI w (burE s c L).1 (burE s c L).2 e w' := by
  obtain ⟨i0, hi, hz0, hz1, hz2⟩ := info_parts icell_info
  by_cases hok : (1 ≤ s.size ∧ s.size ≤ 64) ∧ (0 ≤ c ∧ c ≤ 65535)
  · obtain ⟨⟨h1, h2⟩, h3, h4⟩ := hok
    obtain ⟨x, rfl⟩ : ∃ x : Nat, c = x := ⟨c.toNat, by omega⟩
    have b1 : inB s.size 1 64 = true := inB_t (by omega)
    have b2 : inB (x : Int) 0 65535 = true := inB_t (by omega)
    by_cases hL : 1 ≤ L ∧ L ≤ 16
    · obtain ⟨m, rfl⟩ : ∃ m : Nat, L = m := ⟨L.toNat, by omega⟩
      have b3 : inB (m : Int) 1 16 = true := inB_t (by omega)
      have HF : Hid (burE s (x : Int) (m : Int) = (intsN (bur (bts s) x m (8 * s.size)), 0)) := Lib.hid (by unfold burE; rw [b1, b2, b3]; rfl)
      have hcl := crcN_lt (bts s) 65535 (by omega)
      have hC := crcn_i s 65535 w (by omega) (by omega)
      have hx := i64_xor_nat (crcN (bts s) 65535) x (by omega) (by omega)
      have hwl : crcN (bts s) 65535 ^^^ x < 65536 := Nat.xor_lt_two_pow (n := 16) hcl (by omega)
      have HB := Lib.hid (fun bit => (show burB (bts s) x m bit = isSumR (crcN (bts s) 65535 ^^^ x ^^^ effN s.size bit) ((winU (8 * s.size) bit m).map (effN s.size)) by unfold burB; rw [bts_len]))
      generalize crcN (bts s) 65535 = cn at *
      generalize cn ^^^ x = wn at *
      obtain ⟨wm, hm1, hma, hmb, hmz⟩ := ints_made w (8 * s.size) (by omega)
      rw [← effK_zero] at hma
      have e8 : ((8 * s.size : Nat) : Int) = 8 * (s.size : Int) := by omega
      rw [e8] at hm1
      go_enter Try.func25, Try.ntmps25
      go_wp2_with (first | (go_at_call 54; refine (within_i _ _ _ _).mono ?_; rintro e w1 ⟨rfl, rfl⟩) | (go_at_call 62; refine hC.mono ?_; rintro e w1 ⟨rfl, rfl⟩) | go_in)
      go_loopw [31, 11] (fun i y wr => ∃ k : Nat, k ≤ 8 * s.size ∧ i = .int .i64 k ∧ Below w.heap.size w wr ∧ Hid (Int64L w.heap.size wr (.slice (some ⟨w.heap.size, 0, none⟩) (8 * s.size) (8 * s.size)) (intsN (effK s.size k)))) (fun i _ _ => 8 * s.size - (intOf i).toNat)
      case atStart => exact ⟨0, by omega, rfl, hmb, Lib.hid hma⟩
      case round =>
        obtain ⟨k, hk, rfl, hb, HO⟩ := hrel
        by_cases hlt : k < 8 * s.size
        · have hlt' : (k : Int) < 8 * (s.size : Int) := by omega
          have HE := Lib.hid (eff_i s.size k wr h2 hlt)
          have hgr := (World.ownsRow.lt HO.out _ rfl).2
          go_wp2_with (fail)
          refine HE.out.mono ?_; rintro e w4 ⟨rfl, hb4⟩
          have HO4 := OwnL.below HO.out hb4
          have hg4 := (World.ownsRow.lt HO4 _ rfl).2
          have q1 := ints_cell HO4 (effK_at hlt)
          have z0 := fun j => OwnL.frozen (j := j) HO4
          have HS := Int64L.set HO4 (by rw [intsN_len, effK_len]) (k := k) (by rw [intsN_len, effK_len]; exact hlt) (effN s.size k : Int)
          rw [effK_set] at HS
          have HS' := Lib.hid HS
          have hb04 := hb.trans (hb4.mono hb.size)
          clear HO HO4 HS HE hb hb4
          go_wp2
          go_roundw
          case rel => exact ⟨k + 1, by omega, by go_num, (by repeat (first | exact Below.refl _ _ | refine Below.alloc ?_ (by first | omega | (simp; done) | (simp; omega)) _ | apply Below.drew | apply below_drewN | refine Below.setCell ?_ (by first | omega | (simp; done) | (simp; omega)) _ | refine Below.trans ?_ (Below.mono (by assumption) (by first | omega | (simp; done) | (simp; omega))))), HS'⟩
          case measure => simp [intOf]; omega
        · obtain rfl : k = 8 * s.size := by omega
          have hbo := hb
          generalize hwo : wr = wo at *; clear hwo
          have HE0 := HO
          clear HO hma hm1 hmb hmz
          go_wp2
          go_loopw [43, 12] (fun i y wr => ∃ k : Nat, k ≤ 8 * s.size ∧ i = .int .i64 k ∧ Below w.heap.size w wr ∧ Below wo.heap.size wo wr ∧ Hid (Int64L wo.heap.size wr y (intsN (bur (bts s) x m k)))) (fun i _ _ => 8 * s.size - (intOf i).toNat)
          case atStart => exact ⟨0, by omega, rfl, hbo, Below.refl _ _, Lib.hid (OwnL.of_nil)⟩
          case round =>
            obtain ⟨k, hk, rfl, hb, hbk, HO⟩ := hrel
            obtain ⟨Ay, cy, rfl, hAy⟩ := ints_shape HO.out
            by_cases hlt : k < 8 * s.size
            · have hlt' : (k : Int) < 8 * (s.size : Int) := by omega
              have hEl := effN_lt s.size k
              have HBk := HB.out k
              have hxo := i64_xor_nat wn (effN s.size k) (by omega) (by omega)
              have hEE := OwnL.below HE0.out hbk
              have hg0 := (World.ownsRow.lt hEE _ rfl).2
              have p0 := ints_cell hEE (effK_get hlt)
              have HW : Hid (∀ (j y : Nat), ((winU (8 * s.size) k m).map (effN s.size))[j]? = some y → wr.cell? ⟨w.heap.size, k + 1 + j, none⟩ = some (.int .i64 (y : Int))) := Lib.hid fun j y hj => ints_cell hEE (winU_eff hj)
              have hwl := winU_len (8 * s.size) k m
              obtain ⟨E, hE⟩ : ∃ E : Nat, min (k + m) (8 * s.size) = E := ⟨_, rfl⟩
              rw [hE] at hwl
              have hEi : min (IntKind.i64.wrap ((k : Int) + (m : Int))) (8 * (s.size : Int)) = (E : Int) := by
                have hkm : IntKind.i64.wrap ((k : Int) + (m : Int)) = (k : Int) + (m : Int) := by rw [IntKind.wrap_i64]; omega
                rw [hkm]; omega
              obtain ⟨K1, hK1⟩ : ∃ K1 : Nat, K1 = k + 1 := ⟨_, rfl⟩
              have hKi : IntKind.i64.wrap ((k : Int) + 1) = (K1 : Int) := by rw [IntKind.wrap_i64]; omega
              have hE1 : K1 ≤ E := by omega
              have hkK : k < K1 := by omega
              rw [← hK1] at HW hwl
              have HK1 := Lib.hid hK1
              have hE2 : E ≤ 8 * s.size := by omega
              have hE3 : (E : Int) ≤ 8 * (s.size : Int) := by omega
              have hWL := Lib.hid hwl
              clear hEE hE hwl hK1
              have hl6 : ∀ y ∈ (winU (8 * s.size) k m).map (effN s.size), y < 65536 := fun y hy => by
                obtain ⟨z, _, rfl⟩ := List.mem_map.1 hy
                exact effN_lt _ _
              have hlen : ((winU (8 * s.size) k m).map (effN s.size)).length = E - K1 := by rw [List.length_map, hWL.out]
              have hx6 : wn ^^^ effN s.size k < 65536 := Nat.xor_lt_two_pow (n := 16) hwl hEl
              have HSUM : Hid (∀ (W : World) (A : Option Addr) (c n : Nat), n = E - K1 → ((winU (8 * s.size) k m).map (effN s.size) = [] ∨ ∃ g o, A = some ⟨g, o, none⟩ ∧ g < W.heap.size ∧ ∀ j y : Nat, ((winU (8 * s.size) k m).map (effN s.size))[j]? = some y → W.cell? ⟨g, o + j, none⟩ = some (.int .i64 (y : Int))) → Calls Try.prog 66 #[.int .i64 ((wn ^^^ effN s.size k : Nat) : Int), .slice A n c] W fun e w' => e = .returned (.bool (burB (bts s) x m k)) ∧ Below W.heap.size W w') := Lib.hid fun W A c n hn hA => by
                rw [HBk]
                exact sum_i _ _ _ W ⟨A, c, by rw [hlen, hn], hA⟩ hx6 hl6 (by rw [hlen]; omega)
              have hyl := bur_len (bts s) x m k
              have hbl : (intsN (bur (bts s) x m k)).length + 1 ≤ 16777216 := by rw [intsN_len]; omega
              have hby : (8 : Nat) ≤ 4096 := by decide
              have zr := hbk.size
              have hxw : wn ^^^ effN s.size k = wn ^^^ effN s.size k := rfl
              clear hlen hl6 HBk
              cases hbb : burB (bts s) x m k
              · rw [hbb] at HSUM
                have HN := Lib.hid (bur_no hbb)
                clear hbb
                rcases Decidable.em (8 * s.size = K1) with hce | hce
                · obtain rfl : E = K1 := by omega
                  have hnil : (winU (8 * s.size) k m).map (effN s.size) = [] := List.eq_nil_of_length_eq_zero (by rw [List.length_map, hWL.out]; omega)
                  go_wp2
                  go_still_tail 15, (by kernel_rfl)
                  go_wp2_with (fail)
                  refine (HSUM.out wr.drew _ _ _ (by omega) (.inl hnil)).mono ?_; rintro e w5 ⟨rfl, hb5⟩
                  have hb5' : Below wr.heap.size wr w5 := ((Qt.refl wr).drew.below _).trans hb5
                  have HO5 := Lib.hid (OwnL.below HO.out hb5')
                  have hbw5 : Below w.heap.size w w5 := hb.trans (hb5'.mono hb.size)
                  have hbo5 : Below wo.heap.size wo w5 := hbk.trans (hb5'.mono zr)
                  have z5 := hbo5.size
                  clear hb5 hb5' HO
                  go_wp2
                  simp only [← hce]
                  go_roundw
                  case rel => first | exact ⟨k + 1, by omega, by first | (rw [HK1.out]; done) | (rw [hce, HK1.out]; done) | go_num, hbw5, hbo5, by rw [HN.out]; exact HO5⟩ | ((repeat apply Exists.intro); exact ⟨⟨k + 1, by omega, by first | (rw [HK1.out]; done) | (rw [hce, HK1.out]; done) | go_num, hbw5, hbo5, by rw [HN.out]; exact HO5⟩, rfl⟩)
                  case measure => simp [intOf]; omega
                · have hW2 := HW.out
                  go_wp2
                  go_still_tail 15, (by kernel_rfl)
                  go_wp2_with (fail)
                  refine (HSUM.out wr.drew _ _ _ rfl (.inr ⟨w.heap.size, K1, rfl, hg0, hW2⟩)).mono ?_; rintro e w5 ⟨rfl, hb5⟩
                  have hb5' : Below wr.heap.size wr w5 := ((Qt.refl wr).drew.below _).trans hb5
                  have HO5 := Lib.hid (OwnL.below HO.out hb5')
                  have hbw5 : Below w.heap.size w w5 := hb.trans (hb5'.mono hb.size)
                  have hbo5 : Below wo.heap.size wo w5 := hbk.trans (hb5'.mono zr)
                  have z5 := hbo5.size
                  clear hb5 hb5' HO
                  go_wp2
                  go_roundw
                  case rel => first | exact ⟨k + 1, by omega, by first | (rw [HK1.out]; done) | (rw [hce, HK1.out]; done) | go_num, hbw5, hbo5, by rw [HN.out]; exact HO5⟩ | ((repeat apply Exists.intro); exact ⟨⟨k + 1, by omega, by first | (rw [HK1.out]; done) | (rw [hce, HK1.out]; done) | go_num, hbw5, hbo5, by rw [HN.out]; exact HO5⟩, rfl⟩)
                  case measure => simp [intOf]; omega
              · rw [hbb] at HSUM
                have HN := Lib.hid (bur_yes hbb)
                clear hbb
                rcases Decidable.em (8 * s.size = K1) with hce | hce
                · obtain rfl : E = K1 := by omega
                  have hnil : (winU (8 * s.size) k m).map (effN s.size) = [] := List.eq_nil_of_length_eq_zero (by rw [List.length_map, hWL.out]; omega)
                  go_wp2
                  go_still_tail 15, (by kernel_rfl)
                  go_wp2_with (fail)
                  refine (HSUM.out wr.drew _ _ _ (by omega) (.inl hnil)).mono ?_; rintro e w5 ⟨rfl, hb5⟩
                  have hb5' : Below wr.heap.size wr w5 := ((Qt.refl wr).drew.below _).trans hb5
                  have HO5 := Lib.hid (OwnL.below HO.out hb5')
                  have hbw5 : Below w.heap.size w w5 := hb.trans (hb5'.mono hb.size)
                  have hbo5 : Below wo.heap.size wo w5 := hbk.trans (hb5'.mono zr)
                  have z5 := hbo5.size
                  clear hb5 hb5' HO
                  have hbase : wo.heap.size ≤ (w5.alloc (.cells #[.int .i64 (k : Int)] 2)).heap.size := by simp; omega
                  have z50 := hbo.size
                  go_wp2_with (at_builtin; refine wpList_app1 icell 1 icell_len _ rfl _ _ _ rfl wo.heap.size 2 i0 (.int .i64 0) 8 Try.underlying34 hi hz0 hz1 hz2 rfl (by decide) _ (intsN (bur (bts s) x m k)) rfl (HO5.out.alloc _) _ 1 (k : Int) rfl ?_ (by simp [icell, Value.oneCell']) hbl hby hbase ?_; (· intro j u hu; cases j with | zero => (simp [icell] at hu; subst hu; simp) | succ j => simp [icell] at hu); intro v' w8 how8 hg8'; have hg8 : Below wo.heap.size wo w8 := own_grown_below (HO5.out.alloc (.cells #[.int .i64 (k : Int)] 2)) (Below.alloc hbo5 z5 _) hg8' (Nat.le_refl _) hbase)
                  have hgw : Below w.heap.size w w8 := own_grown_below (HO5.out.alloc (.cells #[.int .i64 (k : Int)] 2)) (Below.alloc hbw5 (by omega) _) hg8' z50 (by simp; omega)
                  simp only [← hce]
                  go_roundw
                  case rel => first | exact ⟨k + 1, by omega, by first | (rw [HK1.out]; done) | (rw [hce, HK1.out]; done) | go_num, hgw, hg8, by rw [HN.out, intsN_app]; exact Lib.hid how8⟩ | ((repeat apply Exists.intro); exact ⟨⟨k + 1, by omega, by first | (rw [HK1.out]; done) | (rw [hce, HK1.out]; done) | go_num, hgw, hg8, by rw [HN.out, intsN_app]; exact Lib.hid how8⟩, rfl⟩)
                  case measure => simp [intOf]; omega
                · have hW2 := HW.out
                  go_wp2
                  go_still_tail 15, (by kernel_rfl)
                  go_wp2_with (fail)
                  refine (HSUM.out wr.drew _ _ _ rfl (.inr ⟨w.heap.size, K1, rfl, hg0, hW2⟩)).mono ?_; rintro e w5 ⟨rfl, hb5⟩
                  have hb5' : Below wr.heap.size wr w5 := ((Qt.refl wr).drew.below _).trans hb5
                  have HO5 := Lib.hid (OwnL.below HO.out hb5')
                  have hbw5 : Below w.heap.size w w5 := hb.trans (hb5'.mono hb.size)
                  have hbo5 : Below wo.heap.size wo w5 := hbk.trans (hb5'.mono zr)
                  have z5 := hbo5.size
                  clear hb5 hb5' HO
                  have hbase : wo.heap.size ≤ (w5.alloc (.cells #[.int .i64 (k : Int)] 2)).heap.size := by simp; omega
                  have z50 := hbo.size
                  go_wp2_with (at_builtin; refine wpList_app1 icell 1 icell_len _ rfl _ _ _ rfl wo.heap.size 2 i0 (.int .i64 0) 8 Try.underlying34 hi hz0 hz1 hz2 rfl (by decide) _ (intsN (bur (bts s) x m k)) rfl (HO5.out.alloc _) _ 1 (k : Int) rfl ?_ (by simp [icell, Value.oneCell']) hbl hby hbase ?_; (· intro j u hu; cases j with | zero => (simp [icell] at hu; subst hu; simp) | succ j => simp [icell] at hu); intro v' w8 how8 hg8'; have hg8 : Below wo.heap.size wo w8 := own_grown_below (HO5.out.alloc (.cells #[.int .i64 (k : Int)] 2)) (Below.alloc hbo5 z5 _) hg8' (Nat.le_refl _) hbase)
                  have hgw : Below w.heap.size w w8 := own_grown_below (HO5.out.alloc (.cells #[.int .i64 (k : Int)] 2)) (Below.alloc hbw5 (by omega) _) hg8' z50 (by simp; omega)
                  go_roundw
                  case rel => first | exact ⟨k + 1, by omega, by first | (rw [HK1.out]; done) | (rw [hce, HK1.out]; done) | go_num, hgw, hg8, by rw [HN.out, intsN_app]; exact Lib.hid how8⟩ | ((repeat apply Exists.intro); exact ⟨⟨k + 1, by omega, by first | (rw [HK1.out]; done) | (rw [hce, HK1.out]; done) | go_num, hgw, hg8, by rw [HN.out, intsN_app]; exact Lib.hid how8⟩, rfl⟩)
                  case measure => simp [intOf]; omega
            · obtain rfl : k = 8 * s.size := by omega
              go_wp2
              exact bodyPost_ret (v := .tuple #[.slice Ay (bur (bts s) x m (8 * s.size)).length cy, .int .i64 0]) (by simp [results, Try.results25, go_sem]) rfl ⟨_, by rw [HF.out], by rw [HF.out]; exact ⟨OwnL.base HO.out hbo.size, fun g hg => (World.ownsRow.lt HO.out g hg).2⟩, hb⟩
    · have b3 : inB L 1 16 = false := inB_f (by omega)
      have HF : Hid (burE s (x : Int) L = ([], 2)) := Lib.hid (by unfold burE; rw [b1, b2, b3]; rfl)
      go_enter Try.func25, Try.ntmps25
      go_wp2_with (first | (go_at_call 54; refine (within_i _ _ _ _).mono ?_; rintro e w1 ⟨rfl, rfl⟩) | go_in)
      exact bodyPost_ret (v := .tuple #[.slice none 0 0, .int .i64 2]) (by simp [results, Try.results25, go_sem]) rfl ⟨_, by rw [HF.out], by rw [HF.out]; exact ⟨OwnL.of_nil, by simp [Value.ownBlock]⟩, Below.refl _ _⟩
  · have HF : Hid (burE s c L = ([], 1)) := Lib.hid (by
      unfold burE
      rw [if_neg]
      intro h
      rw [Bool.and_eq_true] at h
      have h1 := inB_yes h.1
      have h2 := inB_yes h.2
      omega)
    by_cases h1 : 1 ≤ s.size ∧ s.size ≤ 64
    · have b1 : inB s.size 1 64 = true := inB_t (by omega)
      have b2 : inB c 0 65535 = false := inB_f (by omega)
      go_enter Try.func25, Try.ntmps25
      go_wp2_with (first | (go_at_call 54; refine (within_i _ _ _ _).mono ?_; rintro e w1 ⟨rfl, rfl⟩) | go_in)
      exact bodyPost_ret (v := .tuple #[.slice none 0 0, .int .i64 1]) (by simp [results, Try.results25, go_sem]) rfl ⟨_, by rw [HF.out], by rw [HF.out]; exact ⟨OwnL.of_nil, by simp [Value.ownBlock]⟩, Below.refl _ _⟩
    · have b1 : inB s.size 1 64 = false := inB_f (by omega)
      go_enter Try.func25, Try.ntmps25
      go_wp2_with (first | (go_at_call 54; refine (within_i _ _ _ _).mono ?_; rintro e w1 ⟨rfl, rfl⟩) | go_in)
      exact bodyPost_ret (v := .tuple #[.slice none 0 0, .int .i64 1]) (by simp [results, Try.results25, go_sem]) rfl ⟨_, by rw [HF.out], by rw [HF.out]; exact ⟨OwnL.of_nil, by simp [Value.ownBlock]⟩, Below.refl _ _⟩
end Go.Proofs.Ytklalbbacbaoiaa
