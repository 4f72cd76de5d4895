/- BurstsOf, spec: the walk. -/
import Derived.Test.YtklalbbacbaoiaaBurI
import Derived.Test.YtklalbbacbaoiaaFree
namespace Go.Proofs.Ytklalbbacbaoiaa
set_option linter.unusedVariables false
open Go.RowKit
theorem unk_nil (s : ByteArray) (c : Int) : unkOk s [] c = (inB s.size 1 64 && inB c 0 65535) := by
  unfold unkOk; simp [risesB, risesF]
theorem range_next (a j : Nat) : intsN (List.range' a (j + 1)) = intsN (List.range' a j) ++ [((a + j : Nat) : Int)] := by
  rw [List.range'_concat, intsN_app]; simp
theorem OwnL.chg {α : Type} {f : α → List Value} {z : Nat} {e : TypeId} {B B' E' : Nat} {w w' : World} {v : Value} {l : List α} (h : OwnL f z e B w v l) (hc : Chg B' E' w w') (hd : ∀ g, v.ownBlock = some g → ¬ (B' ≤ g ∧ g < E')) : OwnL f z e B w' v l := by
  refine ⟨h.1, ?_⟩
  rcases h.2 with hn | ⟨g, cap, cur, rfl, hbg, hh, rest⟩
  · exact .inl hn
  · exact .inr ⟨g, cap, cur, rfl, hbg, (hc.block g (Array.getElem?_eq_some_iff.1 hh).1 (hd g rfl)).trans hh, rest⟩
theorem winU_is {n k m j : Nat} (h1 : k + 1 + j ≤ n) (h2 : k + 1 + j ≤ k + m) (h : ¬ (k + 1 + j < k + m ∧ k + 1 + j < n)) : List.range' (k + 1) j = winU n k m := by
  unfold winU; congr 1; omega
theorem bur_rows {s : ByteArray} {k m x : Nat} (h2 : s.size ≤ 64) (hm : m ≤ 16) (hx : x < 65536) (v : Value) (W : World) (h : IntsAt W v (intsN (winU (8 * s.size) k m))) :
    Calls Try.prog 65 #[.string (strN (flipN (bts s) k)), v, .int .i64 x] W fun e w' => RetL (rc .u64) 2 107 W (rowsR s.size (winU (8 * s.size) k m) (crcN (clrN (flipN (bts s) k) (winU (8 * s.size) k m)) 65535 ^^^ x)) e w' := by
  have hsz : (strN (flipN (bts s) k)).size = s.size := by rw [strN_size, flipN_len, bts_len]
  have := rows_s (strN (flipN (bts s) k)) (winU (8 * s.size) k m) v x W h (by rw [hsz]; exact fun b => winU_mem) (by rw [hsz]; exact h2) (by rw [winU_len]; omega) hx
  rwa [hsz, bts_strN (flipN_lt bts_lt)] at this
theorem bur_red {s : ByteArray} {k m x : Nat} (hk : k < 8 * s.size) (hm : m ≤ 16) (hx : x < 65536) (B : Nat) (v : Value) (W : World) (h : RowL .u64 107 B W v (rowsR s.size (winU (8 * s.size) k m) (crcN (clrN (flipN (bts s) k) (winU (8 * s.size) k m)) 65535 ^^^ x))) :
    Calls Try.prog 64 #[v] W fun e w' => ∃ v', e = .returned (.tuple #[v', .bool (burB (bts s) x m k)]) ∧ Below W.heap.size W w' := by
  have hb := burB_red (l := bts s) (c := x) (L := m) (bit := k) bts_lt (by rw [bts_len]; exact hk) hm hx
  rw [bts_len] at hb
  rw [← hb]
  refine (red_s B _ v W h (fun e he => Nat.lt_of_lt_of_le (rowsR_lt _ _ _ e he) (show 2 ^ (winU (8 * s.size) k m).length ≤ 2 ^ 64 from Nat.pow_le_pow_right (n := 2) (by omega) (by rw [winU_len]; omega))) (by rw [rowsR_len]; omega)).mono ?_
  rintro e w' ⟨v', rfl, _, hb⟩
  exact ⟨v', rfl, hb⟩
set_option maxRecDepth 20000 in
set_option maxHeartbeats 4000000 in
theorem bur_s (s : ByteArray) (c L : Int) (w : World) (hs : s.size ≤ 1048576) :
    Calls Try.prog 24 #[.string s, .int .i64 c, .int .i64 L] w fun e w' => RInt64S.retI w (burE s c L).1 (burE s c L).2 e w' := by
  obtain ⟨i0, hi, hz0, hz1, hz2⟩ := info_parts icell_info
  have HA := Lib.hid (fun (W : World) A cA => ask_s s [] (.slice A 0 cA) c W ⟨A, cA, rfl, .inl rfl⟩ (by simp) hs)
  simp only [unk_nil] at HA
  by_cases hok : (1 ≤ s.size ∧ s.size ≤ 64) ∧ (0 ≤ c ∧ c ≤ 65535)
  · obtain ⟨⟨h1, h2⟩, h3, h4⟩ := hok
    obtain ⟨x, rfl⟩ : ∃ x : Nat, c = x := ⟨c.toNat, by omega⟩
    have b1 : inB s.size 1 64 = true := inB_t (by omega)
    have b2 : inB (x : Int) 0 65535 = true := inB_t (by omega)
    rw [b1, b2] at HA
    by_cases hL : 1 ≤ L ∧ L ≤ 16
    · obtain ⟨m, rfl⟩ : ∃ m : Nat, L = m := ⟨L.toNat, by omega⟩
      have b3 : inB (m : Int) 1 16 = true := inB_t (by omega)
      have HF : Hid (burE s (x : Int) (m : Int) = (intsN (bur (bts s) x m (8 * s.size)), 0)) := Lib.hid (by unfold burE; rw [b1, b2, b3]; rfl)
      have HIN := Lib.hid (fun W => in_s (m : Int) 1 16 W)
      rw [b3] at HIN
      have HBS := Lib.hid (fun W => buf_of_str W s)
      go_enter Try.func24, Try.ntmps24
      go_wp2_with (fail)
      refine (HA.out _ _ _).mono ?_; rintro e w1 ⟨rfl, hb1⟩
      go_wp2_with (fail)
      refine (HIN.out _).mono ?_; rintro e w2 ⟨rfl, rfl⟩
      have z1 : w.heap.size + 1 ≤ w1.heap.size := by have := hb1.size; simpa using this
      obtain ⟨cb, wb, hcv, hbuf, hb0, hwz⟩ := HBS.out (w1.alloc (.cells #[] 2))
      have HO0 : Hid (Int64L w.heap.size wb (.slice (some ⟨w1.heap.size, 0, none⟩) 0 0) []) := Lib.hid (OwnL.below (OwnL.of_empty w1 (by omega)) hb0)
      have hbb : Below w.heap.size w wb := ((Below.alloc (Below.refl _ _) (Nat.le_refl _) _).trans (hb1.mono (by simp))).trans ((Below.alloc (Below.refl _ _) (Nat.le_refl _) _).trans (hb0.mono (by simp)) |>.mono (by omega))
      have hzz : (w1.alloc (.cells #[] 2)).heap.size = w1.heap.size + 1 := by simp
      rw [hzz] at hcv hbuf hwz
      obtain ⟨gb, hgb⟩ : ∃ gb, gb = w1.heap.size + 1 := ⟨_, rfl⟩
      obtain ⟨go, hgo⟩ : ∃ go, go = w1.heap.size := ⟨_, rfl⟩
      rw [← hgb] at hcv hbuf hwz
      rw [← hgo] at HO0
      have hgw : w.heap.size < gb := by omega
      have hog : go ≠ gb := by omega
      have hbz : gb < wb.heap.size := by omega
      have HBF := Lib.hid hbuf
      clear hb1 hb0 HBS HIN HA hzz hbuf hgb hwz
      have bl := bts_len s
      go_wp2
      go_loopw [11, 8] (fun i y wr => ∃ k : Nat, k ≤ 8 * s.size ∧ i = .int .i64 k ∧ Below w.heap.size w wr ∧ gb < wr.heap.size ∧ Hid (Buf wr gb (bts s)) ∧ Hid (Int64L w.heap.size wr y (intsN (bur (bts s) x m k))) ∧ Hid (y.ownBlock ≠ some gb)) (fun i _ _ => 8 * s.size - (intOf i).toNat)
      case atStart =>
        subst hgo
        exact ⟨0, by omega, rfl, hbb, hbz, HBF, HO0, Lib.hid (by simpa [Value.ownBlock] using hog)⟩
      case round =>
        obtain ⟨k, hk, rfl, hb, hgr, HB, HO, HN⟩ := hrel
        obtain ⟨Ay, cy, rfl, _⟩ := ints_shape HO.out
        by_cases hlt : k < 8 * s.size
        · have hlt' : (k : Int) < 8 * (s.size : Int) := by omega
          generalize hwo : wr = wo at *; clear hwo
          clear HBF HO0 hbb hbz
          have hal : Below wo.heap.size wo (wo.alloc (.cells #[] 2)) := Below.alloc (Below.refl _ _) (Nat.le_refl _) _
          have HU0 : Hid (Int64L wo.heap.size (wo.alloc (.cells #[] 2)) (.slice (some ⟨wo.heap.size, 0, none⟩) 0 0) (intsN (List.range' (k + 1) 0))) := Lib.hid (OwnL.of_empty wo (Nat.le_refl _))
          go_wp2
          go_loopw [13, 12] (fun i y wr => ∃ j : Nat, k + 1 + j ≤ 8 * s.size ∧ k + 1 + j ≤ k + m ∧ i = .int .i64 ((k + 1 + j : Nat) : Int) ∧ Below wo.heap.size wo wr ∧ Hid (Int64L wo.heap.size wr y (intsN (List.range' (k + 1) j)))) (fun i _ _ => 8 * s.size - (intOf i).toNat)
          case atStart => exact ⟨0, by omega, by omega, by go_num, hal, HU0⟩
          case round =>
            clear HU0 hal
            obtain ⟨j, hj1, hj2, rfl, hbk, HU⟩ := hrel
            obtain ⟨Au, cu, rfl, _⟩ := ints_shape HU.out
            rw [List.length_range'] at HU ⊢
            have zr := hbk.size
            by_cases hc1 : k + 1 + j < k + m ∧ k + 1 + j < 8 * s.size
            · obtain ⟨hc1, hc2⟩ := hc1
              have hc1' : ((k + 1 + j : Nat) : Int) < (k : Int) + (m : Int) := by omega
              have hc2' : ((k + 1 + j : Nat) : Int) < 8 * (s.size : Int) := by omega
              have hbl : (intsN (List.range' (k + 1) j)).length + 1 ≤ 16777216 := by rw [intsN_len, List.length_range']; omega
              have hby : (8 : Nat) ≤ 4096 := by decide
              have hbase : wo.heap.size ≤ (wr.alloc (.cells #[.int .i64 ((k + 1 + j : Nat) : Int)] 2)).heap.size := by simp; omega
              have HRN := Lib.hid (range_next (k + 1) j)
              generalize hk1 : k + 1 + j = K at *
              go_wp2_with (at_builtin; refine wpList_app1 icell 1 icell_len _ rfl _ _ _ rfl wo.heap.size 2 i0 (.int .i64 0) 8 Try.underlying34 hi hz0 hz1 hz2 rfl (by decide) _ (intsN (List.range' (k + 1) j)) rfl (HU.out.alloc _) _ 1 (K : Int) rfl ?_ (by simp [icell, Value.oneCell']) hbl hby hbase ?_; (· intro j u hu; cases j with | zero => (simp [icell] at hu; subst hu; simp) | succ j => simp [icell] at hu); intro v' w8 how8 hg8'; have hg8 : Below wo.heap.size wo w8 := own_grown_below (HU.out.alloc (.cells #[.int .i64 (K : Int)] 2)) (Below.alloc hbk zr _) hg8' (Nat.le_refl _) hbase)
              go_roundw
              case rel => exact ⟨j + 1, by omega, by omega, by go_num, hg8, by rw [HRN.out]; exact Lib.hid how8⟩
              case measure => simp [intOf]; omega
            · rw [winU_is hj1 hj2 hc1] at HU
              have hdec : (k + 1 + j < k + m → ¬ (k + 1 + j < 8 * s.size)) := fun h1 h2 => hc1 ⟨h1, h2⟩
              clear hc1
              have hg1 : gb < wr.heap.size := by omega
              have HB1 := HB.out.below hbk hgr
              have hFL := flip_s gb cb k (bts s) wr hg1 HB1 (by rw [bl]; exact hlt) (by rw [bl]; omega) bts_lt
              rw [bl] at hFL
              have HFL := Lib.hid hFL
              have HRO := Lib.hid (fun v W h => bur_rows (s := s) (k := k) (m := m) (x := x) h2 (by omega) (by omega) v W h)
              have HRE := Lib.hid (fun B v W h => bur_red (s := s) (k := k) (m := m) (x := x) hlt (by omega) (by omega) B v W h)
              generalize rowsR s.size (winU (8 * s.size) k m) (crcN (clrN (flipN (bts s) k) (winU (8 * s.size) k m)) 65535 ^^^ x) = R at HRO HRE
              have HOk := OwnL.below HO.out hbk
              have hbw := hb.trans (hbk.mono hb.size)
              have hyl := bur_len (bts s) x m k
              have hbl : (intsN (bur (bts s) x m k)).length + 1 ≤ 16777216 := by rw [intsN_len]; omega
              clear hFL HB1
              cases hbb : burB (bts s) x m k
              · rw [hbb] at HRE
                have HNX := Lib.hid (bur_no hbb)
                clear hbb
                rcases Decidable.em (k + 1 + j < k + m) with hc1 | hc1
                · have hc2 := hdec hc1
                  have hc1' : ((k + 1 + j : Nat) : Int) < (k : Int) + (m : Int) := by omega
                  have hc2' : ¬ ((k + 1 + j : Nat) : Int) < 8 * (s.size : Int) := by omega
                  generalize hk1 : k + 1 + j = K at *
                  go_wp2_with (fail)
                  refine HFL.out.mono ?_; rintro e w5 ⟨rfl, B5, c5, s5⟩
                  have hst := B5.str (n := s.size) (c := cb) (by rw [flipN_len, bl])
                  have U5 := OwnL.chg HU.out c5 (fun g hg => by have := (World.ownsRow.lt HU.out g hg).1; omega)
                  have O5 := OwnL.chg HOk c5 (fun g hg => by have : g ≠ gb := fun e => HN.out (by rw [hg, e]); omega)
                  have b5 : Below w.heap.size w w5 := Chg.below hbw c5 (by omega) (Nat.le_refl _)
                  have z5 := c5.size
                  have HB5 := Lib.hid B5
                  have HU5 := Lib.hid (intsAt_own U5)
                  have HO5 := Lib.hid O5
                  clear B5 U5 O5 c5 s5 HFL
                  go_wp2_with (fail)
                  refine (HRO.out _ _ HU5.out).mono ?_; rintro e w6 ⟨v6, rfl, o6, b6⟩
                  obtain ⟨A6, c6, rfl, _⟩ := OwnL.shape o6
                  have z6 := b6.size
                  go_wp2_with (fail)
                  refine (HRE.out _ _ _ o6).mono ?_; rintro e w7 ⟨v7, rfl, b7⟩
                  have b57 : Below w5.heap.size w5 w7 := b6.trans (b7.mono z6)
                  have z7 := b57.size
                  have hFL2 := flip_s gb cb k (flipN (bts s) k) w7 (by omega) (HB5.out.below b57 (by omega)) (by rw [flipN_len, bl]; exact hlt) (by rw [flipN_len, bl]; omega) (flipN_lt bts_lt)
                  rw [flipN_back (by rw [bl]; exact hlt), flipN_len, bl] at hFL2
                  have HFL2 := Lib.hid hFL2
                  have HO7 := Lib.hid (OwnL.below HO5.out b57)
                  have hb7 : Below w.heap.size w w7 := b5.trans (b57.mono (by omega))
                  clear o6 b6 b7 b57 hst HB5 HU5 HO5 hFL2
                  go_wp2_with (fail)
                  refine HFL2.out.mono ?_; rintro e w8 ⟨rfl, B8, c8, s8⟩
                  have HB8 := Lib.hid B8
                  have HO8 := Lib.hid (OwnL.chg HO7.out c8 (fun g hg => by have : g ≠ gb := fun e => HN.out (by rw [hg, e]); omega))
                  have b8 : Below w.heap.size w w8 := Chg.below hb7 c8 (by omega) (Nat.le_refl _)
                  have z8 := c8.size
                  clear B8 c8 s8 HFL2 HO7
                  go_wp2
                  go_roundw
                  case rel => first | exact ⟨k + 1, by omega, by go_num, b8, by omega, HB8, by rw [HNX.out]; exact HO8, HN⟩ | ((repeat apply Exists.intro); exact ⟨⟨k + 1, by omega, by go_num, b8, by omega, HB8, by rw [HNX.out]; exact HO8, HN⟩, rfl⟩)
                  case measure => simp [intOf]; omega
                · have hc1' : ¬ ((k + 1 + j : Nat) : Int) < (k : Int) + (m : Int) := by omega
                  generalize hk1 : k + 1 + j = K at *
                  go_wp2_with (fail)
                  refine HFL.out.mono ?_; rintro e w5 ⟨rfl, B5, c5, s5⟩
                  have hst := B5.str (n := s.size) (c := cb) (by rw [flipN_len, bl])
                  have U5 := OwnL.chg HU.out c5 (fun g hg => by have := (World.ownsRow.lt HU.out g hg).1; omega)
                  have O5 := OwnL.chg HOk c5 (fun g hg => by have : g ≠ gb := fun e => HN.out (by rw [hg, e]); omega)
                  have b5 : Below w.heap.size w w5 := Chg.below hbw c5 (by omega) (Nat.le_refl _)
                  have z5 := c5.size
                  have HB5 := Lib.hid B5
                  have HU5 := Lib.hid (intsAt_own U5)
                  have HO5 := Lib.hid O5
                  clear B5 U5 O5 c5 s5 HFL
                  go_wp2_with (fail)
                  refine (HRO.out _ _ HU5.out).mono ?_; rintro e w6 ⟨v6, rfl, o6, b6⟩
                  obtain ⟨A6, c6, rfl, _⟩ := OwnL.shape o6
                  have z6 := b6.size
                  go_wp2_with (fail)
                  refine (HRE.out _ _ _ o6).mono ?_; rintro e w7 ⟨v7, rfl, b7⟩
                  have b57 : Below w5.heap.size w5 w7 := b6.trans (b7.mono z6)
                  have z7 := b57.size
                  have hFL2 := flip_s gb cb k (flipN (bts s) k) w7 (by omega) (HB5.out.below b57 (by omega)) (by rw [flipN_len, bl]; exact hlt) (by rw [flipN_len, bl]; omega) (flipN_lt bts_lt)
                  rw [flipN_back (by rw [bl]; exact hlt), flipN_len, bl] at hFL2
                  have HFL2 := Lib.hid hFL2
                  have HO7 := Lib.hid (OwnL.below HO5.out b57)
                  have hb7 : Below w.heap.size w w7 := b5.trans (b57.mono (by omega))
                  clear o6 b6 b7 b57 hst HB5 HU5 HO5 hFL2
                  go_wp2_with (fail)
                  refine HFL2.out.mono ?_; rintro e w8 ⟨rfl, B8, c8, s8⟩
                  have HB8 := Lib.hid B8
                  have HO8 := Lib.hid (OwnL.chg HO7.out c8 (fun g hg => by have : g ≠ gb := fun e => HN.out (by rw [hg, e]); omega))
                  have b8 : Below w.heap.size w w8 := Chg.below hb7 c8 (by omega) (Nat.le_refl _)
                  have z8 := c8.size
                  clear B8 c8 s8 HFL2 HO7
                  go_wp2
                  go_roundw
                  case rel => first | exact ⟨k + 1, by omega, by go_num, b8, by omega, HB8, by rw [HNX.out]; exact HO8, HN⟩ | ((repeat apply Exists.intro); exact ⟨⟨k + 1, by omega, by go_num, b8, by omega, HB8, by rw [HNX.out]; exact HO8, HN⟩, rfl⟩)
                  case measure => simp [intOf]; omega
              · rw [hbb] at HRE
                have HNX := Lib.hid (bur_yes hbb)
                clear hbb
                rcases Decidable.em (k + 1 + j < k + m) with hc1 | hc1
                · have hc2 := hdec hc1
                  have hc1' : ((k + 1 + j : Nat) : Int) < (k : Int) + (m : Int) := by omega
                  have hc2' : ¬ ((k + 1 + j : Nat) : Int) < 8 * (s.size : Int) := by omega
                  generalize hk1 : k + 1 + j = K at *
                  go_wp2_with (fail)
                  refine HFL.out.mono ?_; rintro e w5 ⟨rfl, B5, c5, s5⟩
                  have hst := B5.str (n := s.size) (c := cb) (by rw [flipN_len, bl])
                  have U5 := OwnL.chg HU.out c5 (fun g hg => by have := (World.ownsRow.lt HU.out g hg).1; omega)
                  have O5 := OwnL.chg HOk c5 (fun g hg => by have : g ≠ gb := fun e => HN.out (by rw [hg, e]); omega)
                  have b5 : Below w.heap.size w w5 := Chg.below hbw c5 (by omega) (Nat.le_refl _)
                  have z5 := c5.size
                  have HB5 := Lib.hid B5
                  have HU5 := Lib.hid (intsAt_own U5)
                  have HO5 := Lib.hid O5
                  clear B5 U5 O5 c5 s5 HFL
                  go_wp2_with (fail)
                  refine (HRO.out _ _ HU5.out).mono ?_; rintro e w6 ⟨v6, rfl, o6, b6⟩
                  obtain ⟨A6, c6, rfl, _⟩ := OwnL.shape o6
                  have z6 := b6.size
                  go_wp2_with (fail)
                  refine (HRE.out _ _ _ o6).mono ?_; rintro e w7 ⟨v7, rfl, b7⟩
                  have b57 : Below w5.heap.size w5 w7 := b6.trans (b7.mono z6)
                  have z7 := b57.size
                  have hFL2 := flip_s gb cb k (flipN (bts s) k) w7 (by omega) (HB5.out.below b57 (by omega)) (by rw [flipN_len, bl]; exact hlt) (by rw [flipN_len, bl]; omega) (flipN_lt bts_lt)
                  rw [flipN_back (by rw [bl]; exact hlt), flipN_len, bl] at hFL2
                  have HFL2 := Lib.hid hFL2
                  have HO7 := Lib.hid (OwnL.below HO5.out b57)
                  have hb7 : Below w.heap.size w w7 := b5.trans (b57.mono (by omega))
                  clear o6 b6 b7 b57 hst HB5 HU5 HO5 hFL2
                  go_wp2_with (fail)
                  refine HFL2.out.mono ?_; rintro e w8 ⟨rfl, B8, c8, s8⟩
                  have HB8 := Lib.hid B8
                  have HO8 := Lib.hid (OwnL.chg HO7.out c8 (fun g hg => by have : g ≠ gb := fun e => HN.out (by rw [hg, e]); omega))
                  have b8 : Below w.heap.size w w8 := Chg.below hb7 c8 (by omega) (Nat.le_refl _)
                  have z8 := c8.size
                  clear B8 c8 s8 HFL2 HO7
                  have hbase : w.heap.size ≤ (w8.alloc (.cells #[.int .i64 (k : Int)] 2)).heap.size := by simp; omega
                  have hzz : (w8.alloc (.cells #[.int .i64 (k : Int)] 2)).heap.size = w8.heap.size + 1 := by simp
                  have hal8 : Below w8.heap.size w8 (w8.alloc (.cells #[.int .i64 (k : Int)] 2)) := Below.alloc (Below.refl _ _) (Nat.le_refl _) _
                  have hby : (8 : Nat) ≤ 4096 := by decide
                  go_wp2_with (at_builtin; refine wpList_app1at icell 1 icell_len _ rfl _ _ _ rfl w.heap.size 2 i0 (.int .i64 0) 8 Try.underlying34 hi hz0 hz1 hz2 rfl (by decide) _ (intsN (bur (bts s) x m k)) rfl (HO8.out.alloc _) _ 1 (k : Int) rfl ?_ (by simp [icell, Value.oneCell']) hbl hby hbase ?_; (· intro j u hu; cases j with | zero => (simp [icell] at hu; subst hu; simp) | succ j => simp [icell] at hu); intro v9 w9 how9 hg9 hbl9)
                  have hb9 : Below w.heap.size w w9 := own_grown_below (HO8.out.alloc (.cells #[.int .i64 (k : Int)] 2)) (Below.alloc b8 (by omega) _) hg9 (Nat.le_refl _) hbase
                  have hN9 : v9.ownBlock ≠ some gb := by
                    rcases hbl9 with h | h
                    · rw [h]; exact HN.out
                    · rw [h, hzz]; intro e; injection e with e; omega
                  have hB9 : Buf w9 gb (bts s) := (HB8.out.below hal8 (by omega)).block (hg9.block gb (by omega) (fun e => HN.out e.symm))
                  have z9 := hg9.size
                  go_roundw
                  case rel => first | exact ⟨k + 1, by omega, by go_num, hb9, by omega, Lib.hid hB9, by rw [HNX.out, intsN_app]; exact Lib.hid how9, Lib.hid hN9⟩ | ((repeat apply Exists.intro); exact ⟨⟨k + 1, by omega, by go_num, hb9, by omega, Lib.hid hB9, by rw [HNX.out, intsN_app]; exact Lib.hid how9, Lib.hid hN9⟩, rfl⟩)
                  case measure => simp [intOf]; omega
                · have hc1' : ¬ ((k + 1 + j : Nat) : Int) < (k : Int) + (m : Int) := by omega
                  generalize hk1 : k + 1 + j = K at *
                  go_wp2_with (fail)
                  refine HFL.out.mono ?_; rintro e w5 ⟨rfl, B5, c5, s5⟩
                  have hst := B5.str (n := s.size) (c := cb) (by rw [flipN_len, bl])
                  have U5 := OwnL.chg HU.out c5 (fun g hg => by have := (World.ownsRow.lt HU.out g hg).1; omega)
                  have O5 := OwnL.chg HOk c5 (fun g hg => by have : g ≠ gb := fun e => HN.out (by rw [hg, e]); omega)
                  have b5 : Below w.heap.size w w5 := Chg.below hbw c5 (by omega) (Nat.le_refl _)
                  have z5 := c5.size
                  have HB5 := Lib.hid B5
                  have HU5 := Lib.hid (intsAt_own U5)
                  have HO5 := Lib.hid O5
                  clear B5 U5 O5 c5 s5 HFL
                  go_wp2_with (fail)
                  refine (HRO.out _ _ HU5.out).mono ?_; rintro e w6 ⟨v6, rfl, o6, b6⟩
                  obtain ⟨A6, c6, rfl, _⟩ := OwnL.shape o6
                  have z6 := b6.size
                  go_wp2_with (fail)
                  refine (HRE.out _ _ _ o6).mono ?_; rintro e w7 ⟨v7, rfl, b7⟩
                  have b57 : Below w5.heap.size w5 w7 := b6.trans (b7.mono z6)
                  have z7 := b57.size
                  have hFL2 := flip_s gb cb k (flipN (bts s) k) w7 (by omega) (HB5.out.below b57 (by omega)) (by rw [flipN_len, bl]; exact hlt) (by rw [flipN_len, bl]; omega) (flipN_lt bts_lt)
                  rw [flipN_back (by rw [bl]; exact hlt), flipN_len, bl] at hFL2
                  have HFL2 := Lib.hid hFL2
                  have HO7 := Lib.hid (OwnL.below HO5.out b57)
                  have hb7 : Below w.heap.size w w7 := b5.trans (b57.mono (by omega))
                  clear o6 b6 b7 b57 hst HB5 HU5 HO5 hFL2
                  go_wp2_with (fail)
                  refine HFL2.out.mono ?_; rintro e w8 ⟨rfl, B8, c8, s8⟩
                  have HB8 := Lib.hid B8
                  have HO8 := Lib.hid (OwnL.chg HO7.out c8 (fun g hg => by have : g ≠ gb := fun e => HN.out (by rw [hg, e]); omega))
                  have b8 : Below w.heap.size w w8 := Chg.below hb7 c8 (by omega) (Nat.le_refl _)
                  have z8 := c8.size
                  clear B8 c8 s8 HFL2 HO7
                  have hbase : w.heap.size ≤ (w8.alloc (.cells #[.int .i64 (k : Int)] 2)).heap.size := by simp; omega
                  have hzz : (w8.alloc (.cells #[.int .i64 (k : Int)] 2)).heap.size = w8.heap.size + 1 := by simp
                  have hal8 : Below w8.heap.size w8 (w8.alloc (.cells #[.int .i64 (k : Int)] 2)) := Below.alloc (Below.refl _ _) (Nat.le_refl _) _
                  have hby : (8 : Nat) ≤ 4096 := by decide
                  go_wp2_with (at_builtin; refine wpList_app1at icell 1 icell_len _ rfl _ _ _ rfl w.heap.size 2 i0 (.int .i64 0) 8 Try.underlying34 hi hz0 hz1 hz2 rfl (by decide) _ (intsN (bur (bts s) x m k)) rfl (HO8.out.alloc _) _ 1 (k : Int) rfl ?_ (by simp [icell, Value.oneCell']) hbl hby hbase ?_; (· intro j u hu; cases j with | zero => (simp [icell] at hu; subst hu; simp) | succ j => simp [icell] at hu); intro v9 w9 how9 hg9 hbl9)
                  have hb9 : Below w.heap.size w w9 := own_grown_below (HO8.out.alloc (.cells #[.int .i64 (k : Int)] 2)) (Below.alloc b8 (by omega) _) hg9 (Nat.le_refl _) hbase
                  have hN9 : v9.ownBlock ≠ some gb := by
                    rcases hbl9 with h | h
                    · rw [h]; exact HN.out
                    · rw [h, hzz]; intro e; injection e with e; omega
                  have hB9 : Buf w9 gb (bts s) := (HB8.out.below hal8 (by omega)).block (hg9.block gb (by omega) (fun e => HN.out e.symm))
                  have z9 := hg9.size
                  go_roundw
                  case rel => first | exact ⟨k + 1, by omega, by go_num, hb9, by omega, Lib.hid hB9, by rw [HNX.out, intsN_app]; exact Lib.hid how9, Lib.hid hN9⟩ | ((repeat apply Exists.intro); exact ⟨⟨k + 1, by omega, by go_num, hb9, by omega, Lib.hid hB9, by rw [HNX.out, intsN_app]; exact Lib.hid how9, Lib.hid hN9⟩, rfl⟩)
                  case measure => simp [intOf]; omega
        · obtain rfl : k = 8 * s.size := by omega
          go_wp2
          exact bodyPost_ret (v := .tuple #[.slice Ay (bur (bts s) x m (8 * s.size)).length cy, .int .i64 0]) (by simp [results, Try.results24, go_sem]) rfl ⟨_, by rw [HF.out], by rw [HF.out]; exact ⟨HO.out, fun g hg => (World.ownsRow.lt HO.out g hg).2⟩, hb⟩
    · have b3 : inB L 1 16 = false := inB_f (by omega)
      have HF : Hid (burE s (x : Int) L = ([], 2)) := Lib.hid (by unfold burE; rw [b1, b2, b3]; rfl)
      go_enter Try.func24, Try.ntmps24
      go_wp2_with (fail)
      refine (HA.out _ _ _).mono ?_; rintro e w1 ⟨rfl, hb1⟩
      go_wp2_with (go_at_call 51; refine (in_s _ _ _ _).mono ?_; rintro e w2 ⟨rfl, rfl⟩)
      exact bodyPost_ret (v := .tuple #[.slice none 0 0, .int .i64 2]) (by simp [results, Try.results24, go_sem]) rfl ⟨_, by rw [HF.out], by rw [HF.out]; exact ⟨OwnL.of_nil, by simp [Value.ownBlock]⟩, (by repeat (first | exact Below.refl _ _ | refine Below.alloc ?_ (by first | omega | (simp; done) | (simp; omega)) _ | apply Below.drew | apply below_drewN | refine Below.setCell ?_ (by first | omega | (simp; done) | (simp; omega)) _ | refine Below.trans ?_ (Below.mono (by assumption) (by first | omega | (simp; done) | (simp; omega)))))⟩
  · have hno : (inB s.size 1 64 && inB c 0 65535) = false := by
      rw [Bool.eq_false_iff]
      intro h
      rw [Bool.and_eq_true] at h
      have h1 := inB_yes h.1
      have h2 := inB_yes h.2
      omega
    rw [hno] at HA
    have HF : Hid (burE s c L = ([], 1)) := Lib.hid (by unfold burE; rw [hno]; rfl)
    go_enter Try.func24, Try.ntmps24
    go_wp2_with (fail)
    refine (HA.out _ _ _).mono ?_; rintro e w1 ⟨rfl, hb1⟩
    go_wp2
    exact bodyPost_ret (v := .tuple #[.slice none 0 0, .int .i64 1]) (by simp [results, Try.results24, go_sem]) rfl ⟨_, by rw [HF.out], by rw [HF.out]; exact ⟨OwnL.of_nil, by simp [Value.ownBlock]⟩, (by repeat (first | exact Below.refl _ _ | refine Below.alloc ?_ (by first | omega | (simp; done) | (simp; omega)) _ | apply Below.drew | apply below_drewN | refine Below.setCell ?_ (by first | omega | (simp; done) | (simp; omega)) _ | refine Below.trans ?_ (Below.mono (by assumption) (by first | omega | (simp; done) | (simp; omega)))))⟩
end Go.Proofs.Ytklalbbacbaoiaa
