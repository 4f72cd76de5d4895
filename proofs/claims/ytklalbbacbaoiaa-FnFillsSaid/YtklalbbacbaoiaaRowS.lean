/- l25Rows: the walk. -/
import Derived.Test.YtklalbbacbaoiaaRowI
namespace Go.Proofs.Ytklalbbacbaoiaa
set_option linter.unusedVariables false
open Go.RowKit
theorem rowu_info : (Try.prog.info? 107).map (fun i => (i.zero, i.size, i.bytes)) = some (some (.agg #[.int .u64 0, .int .u64 0]), 2, 16) := by kernel_rfl
theorem rowc_news (κ : IntKind) (m : Nat) (b : Bool) {w : World} {g : Nat} (h0 : w.cell? ⟨g, 0, none⟩ = some (.int .u64 m)) (h1 : w.cell? ⟨g, 1, none⟩ = some (.int κ (bi b))) : ∀ j u, (rc κ ⟨m, b⟩)[j]? = some u → w.cell? ⟨g, j, none⟩ = some u := by
  intro j u hu
  match j, hu with
  | 0, hu => simp [rc] at hu; subst hu; exact h0
  | 1, hu => simp [rc] at hu; subst hu; exact h1
  | j + 2, hu => simp [rc] at hu
theorem bi_wrap_u (b : Bool) : IntKind.u64.wrap (bi b) = bi b := by cases b <;> decide
set_option maxRecDepth 20000 in
set_option maxHeartbeats 8000000 in
theorem rows_s (s : ByteArray) (u : List Nat) (v : Value) (crc : Nat) (w : World) (h : IntsAt w v (intsN u)) (hu : ∀ b ∈ u, b < 8 * s.size) (hs : s.size ≤ 64) (hm : u.length ≤ 64) (hc : crc < 65536) :
    Calls Try.prog 65 #[.string s, v, .int .i64 crc] w fun e w' => RetL (rc .u64) 2 107 w (rowsR s.size u (crcN (clrN (bts s) u) 65535 ^^^ crc)) e w' := by
  obtain ⟨i0, hi, hz0, hz1, hz2⟩ := info_parts rowu_info
  have HI := Lib.hid h
  have HU := Lib.hid hu
  have HCL := Lib.hid (fun w' (hb : Below w.heap.size w w') => clear_s s u v w' (h.below hb) hu (by omega) (by omega))
  have HCR := Lib.hid (fun g c w' (hB : Buf w' g (clrN (bts s) u)) => crcb_s g c s.size (clrN (bts s) u) w' hB (by rw [clrN_len, bts_len]) (by omega) (clrN_lt bts_lt))
  have hcn := crcN_lt (clrN (bts s) u) 65535 (by omega)
  generalize crcN (clrN (bts s) u) 65535 = cn at *
  have hx := i64_xor_nat cn crc (by omega) (by omega)
  have hrl : cn ^^^ crc < 65536 := Nat.xor_lt_two_pow (n := 16) hcn hc
  generalize cn ^^^ crc = rest at *
  obtain ⟨A, cA, rfl, hA⟩ := h
  simp only [intsN_len] at HCL ⊢
  clear hu
  go_enter Try.func65, Try.ntmps65
  go_wp2_with (fail)
  refine (HCL.out _ (Below.refl _ _)).mono ?_; rintro e w2 ⟨c2, rfl, hB2, hz2', hb2⟩
  go_wp2_with (fail)
  refine (HCR.out _ _ _ hB2).mono ?_; rintro e w3 ⟨rfl, rfl⟩
  have hb02 : Below w.heap.size w w2 := hb2
  have HO2 : Hid (RowL .u64 107 w.heap.size (w2.alloc (.cells #[] 107)) (.slice (some ⟨w2.heap.size, 0, none⟩) 0 0) (rowsT rest 0)) := Lib.hid (OwnL.of_empty w2 (by omega))
  clear HCL HCR hb2 hB2
  go_wp2
  go_loopw [9, 8] (fun i x wr => ∃ k : Nat, k ≤ 16 ∧ i = .int .i64 k ∧ Below w.heap.size w wr ∧ Hid (RowL .u64 107 w.heap.size wr x (rowsT rest k))) (fun i _ _ => 16 - (intOf i).toNat)
  case atStart => exact ⟨0, by omega, rfl, (by repeat (first | exact Below.refl _ _ | refine Below.alloc ?_ (by first | omega | (simp; done) | (simp; omega)) _ | apply Below.drew | apply below_drewN | refine Below.setCell ?_ (by first | omega | (simp; done) | (simp; omega)) _ | refine Below.trans ?_ (Below.mono (by assumption) (by first | omega | (simp; done) | (simp; omega))))), HO2⟩
  case round =>
    obtain ⟨k, hk, rfl, hb, HO⟩ := hrel
    by_cases hlt : k < 16
    · obtain ⟨j, hj⟩ : ∃ j, j + k = 15 := ⟨15 - k, by omega⟩
      have e1 : (15 : Int) - (k : Int) = (j : Int) := by omega
      have ej : 15 - k = j := by omega
      have hbv := i64_bit rest j (by omega)
      have hbv2 : bits .and .i64 ((rest : Int) / 2 ^ min j 64) 1 = bi (rest.testBit j) := by rw [Nat.min_eq_left (by omega)]; exact hbv
      have hwu := bi_wrap_u (rest.testBit j)
      have hzr := hb.size
      have HN := Lib.hid (rowsT_next rest k)
      rw [ej] at HN
      generalize rest.testBit j = b at *
      obtain ⟨Ax, cx, hvx, _⟩ := OwnL.shape HO.out
      rw [rowsT_len] at hvx
      subst hvx
      have htl : (rowsT rest k).length ≤ 16 := by rw [rowsT_len]; omega
      clear ej
      go_wp2_with (at_builtin; refine wpList_app1 (rc .u64) 2 (rc_len .u64) _ rfl _ _ _ rfl w.heap.size 107 i0 (.agg #[.int .u64 0, .int .u64 0]) 16 Try.underlying73 hi hz0 hz1 hz2 rfl (by decide) _ (rowsT rest k) rfl (HO.out.alloc _) _ 1 ⟨0, b⟩ rfl ?_ (rc_one .u64 _) (by omega) (by omega) (by simp; omega) ?_; (· exact rowc_news .u64 0 b (by simp) (by simp)); intro v' w8 how8 hg8; have hg8' : Below w.heap.size w w8 := own_grown_below (HO.out.alloc (.cells #[.int .u64 0, .int .u64 (bi b)] 107)) (Below.alloc hb hzr _) hg8 (Nat.le_refl _) (by simp; omega); clear hg8)
      go_roundw
      case rel => exact ⟨k + 1, by omega, by go_num, hg8', by rw [HN.out]; exact Lib.hid how8⟩
      case measure => simp [intOf]; omega
    · obtain rfl : k = 16 := by omega
      rw [rowsT_end s.size u] at HO
      have hbo := hb
      obtain ⟨Ax, cx, hvx, hAx⟩ := OwnL.shape HO.out
      obtain ⟨gx, rfl, _, _⟩ := hAx.resolve_left (by intro h0; have := congrArg List.length h0; rw [rowsP_len] at this; simp at this)
      rw [rowsP_len] at hvx
      subst hvx
      generalize hwo : wr = wo at *; clear hwo
      clear HO2 hb02 hAx
      go_wp2
      go_loopw [10] (fun i wr => ∃ k : Nat, k ≤ u.length ∧ i = .int .i64 k ∧ Below w.heap.size w wr ∧ Hid (RowL .u64 107 w.heap.size wr (.slice (some ⟨gx, 0, none⟩) 16 cx) (rowsP s.size u rest k 0))) (fun i _ => u.length - (intOf i).toNat)
      case atStart => exact ⟨0, by omega, rfl, hbo, HO⟩
      case round =>
        clear HO hbo
        obtain ⟨k, hk, rfl, hb, HO⟩ := hrel
        by_cases hltk : k < u.length
        · obtain ⟨b, hbk⟩ : ∃ b, u[k]? = some b := ⟨u[k], List.getElem?_eq_getElem hltk⟩
          have hbs := HU.out b (List.mem_of_getElem? hbk)
          have HB := Lib.hid (getD_some hbk)
          obtain ⟨g, rfl, hg, hcc⟩ := hA.resolve_left (by intro h0; have := congrArg List.length h0; rw [intsN_len] at this; simp only [List.length_nil] at this; omega)
          have pk := (hb.cell (p := ⟨g, k, none⟩) hg).trans (hcc k _ (intsN_get hbk))
          have HE := Lib.hid (fun w' => eff_s s.size b w' hs hbs)
          have hel := effN_lt s.size b
          have HM1 := Lib.hid (fun i hi => maskR_yes (n := s.size) (i := i) HB.out hi)
          have HM0 := Lib.hid (fun i hi => maskR_no (n := s.size) (i := i) HB.out hi)
          generalize effN s.size b = ef at *
          clear hcc hbk HB
          go_wp2_with (fail)
          refine (HE.out _).mono ?_; rintro e w4 ⟨rfl, hb4⟩
          have HO4 := Lib.hid (OwnL.below HO.out hb4)
          have hb04 := hb.trans (hb4.mono hb.size)
          clear HO hb hb4 HE pk
          go_wp2
          go_loopw [12] (fun i wr => ∃ j : Nat, j ≤ 16 ∧ i = .int .i64 j ∧ Below w.heap.size w wr ∧ Hid (RowL .u64 107 w.heap.size wr (.slice (some ⟨gx, 0, none⟩) 16 cx) (rowsP s.size u rest k j))) (fun i _ => 16 - (intOf i).toNat)
          case atStart => exact ⟨0, by omega, rfl, hb04, HO4⟩
          case round =>
            clear HO4 hb04
            obtain ⟨i, hi2, rfl, hb, HO⟩ := hrel
            by_cases hlt : i < 16
            · obtain ⟨j, hj⟩ : ∃ j, j + i = 15 := ⟨15 - i, by omega⟩
              have e1 : (15 : Int) - (i : Int) = (j : Int) := by omega
              have ej : 15 - i = j := by omega
              have hbv := i64_bit ef j (by omega)
              have hbv2 : bits .and .i64 ((ef : Int) / 2 ^ min j 64) 1 = bi (ef.testBit j) := by rw [Nat.min_eq_left (by omega)]; exact hbv
              have hg3 := (World.ownsRow.lt HO.out _ rfl)
              have q1 := OwnL.at1 (rc_len .u64) HO.out (rowsP_get hlt) (j := 0) rfl
              have z0 := fun j => OwnL.frozen (j := j) HO.out
              simp only [Nat.add_zero] at q1
              have HS := Lib.hid (OwnL.set1 (rc_len .u64) HO.out (rowsP_get hlt) (j := 0) (a' := ⟨maskR s.size u i (k + 1), rest.testBit (15 - i)⟩) (u := .int .u64 (maskR s.size u i (k + 1) : Nat)) (by omega) rfl)
              rw [rowsP_set] at HS
              simp only [Nat.add_zero] at HS
              have hmb := maskR_64 s.size u i (K := k) (by omega)
              have hpw : 2 ^ k < 18446744073709551616 := Nat.lt_of_lt_of_le (Nat.pow_lt_pow_right (by omega) (by omega : k < 64)) (by decide)
              cases hbit : ef.testBit j
              · rw [hbit, bi_f] at hbv hbv2
                have hor := u64_or_nat (maskR s.size u i k) 0 hmb (by decide)
                have hM := HM0.out i (by rw [ej]; exact hbit)
                rw [Nat.or_zero, ← hM] at hor
                rw [← hM] at q1
                clear hM
                generalize maskR s.size u i (k + 1) = m1 at *
                have hor0 : bits .or .u64 (m1 : Int) 0 = (m1 : Int) := hor
                clear ej
                go_wp2
                go_roundw
                case rel => exact ⟨i + 1, by omega, by go_num, (by repeat (first | exact Below.refl _ _ | refine Below.alloc ?_ (by first | omega | (simp; done) | (simp; omega)) _ | apply Below.drew | apply below_drewN | refine Below.setCell ?_ (by first | omega | (simp; done) | (simp; omega)) _ | refine Below.trans ?_ (Below.mono (by assumption) (by first | omega | (simp; done) | (simp; omega))))), HS⟩
                case measure => simp [intOf]; omega
              · rw [hbit, bi_t] at hbv hbv2
                have hor := u64_or_nat (maskR s.size u i k) (2 ^ k) hmb hpw
                rw [← HM1.out i (by rw [ej]; exact hbit), ← wrap_pow k (by omega)] at hor
                generalize maskR s.size u i (k + 1) = m1 at *
                generalize maskR s.size u i k = m0 at *
                clear ej
                go_wp2
                go_roundw
                case rel => exact ⟨i + 1, by omega, by go_num, (by repeat (first | exact Below.refl _ _ | refine Below.alloc ?_ (by first | omega | (simp; done) | (simp; omega)) _ | apply Below.drew | apply below_drewN | refine Below.setCell ?_ (by first | omega | (simp; done) | (simp; omega)) _ | refine Below.trans ?_ (Below.mono (by assumption) (by first | omega | (simp; done) | (simp; omega))))), HS⟩
                case measure => simp [intOf]; omega
            · obtain rfl : i = 16 := by omega
              rw [rowsP_all] at HO
              go_wp2
              go_roundw
              case rel => (repeat apply Exists.intro); exact ⟨⟨k + 1, by omega, by go_num, hb, HO⟩, rfl⟩
              case measure => simp [intOf]; omega
        · obtain rfl : k = u.length := by omega
          rw [rowsP_end] at HO
          go_wp2
          go_ret
          exact ⟨_, rfl, HO.out, hb⟩
end Go.Proofs.Ytklalbbacbaoiaa
