/- rowsOf: the walk. -/
import Derived.Test.YtklalbbacbaoiaaClrW
namespace Go.Proofs.Ytklalbbacbaoiaa
set_option linter.unusedVariables false
open Go.RowKit
theorem IntsAt.below {w w' : World} {v : Value} {l : List Int} (h : IntsAt w v l) (hb : Below w.heap.size w w') : IntsAt w' v l := by
  obtain ⟨A, c, rfl, hA⟩ := h
  refine ⟨A, c, rfl, ?_⟩
  rcases hA with hA | ⟨g, rfl, hg, hc⟩
  · exact .inl hA
  · exact .inr ⟨g, rfl, Nat.lt_of_lt_of_le hg hb.size, fun k x hk => (hb.cell (p := ⟨g, k, none⟩) hg).trans (hc k x hk)⟩
theorem rowi_info : (Try.prog.info? 83).map (fun i => (i.zero, i.size, i.bytes)) = some (some (.agg #[.int .u64 0, .int .i64 0]), 2, 16) := by kernel_rfl
theorem crcl_i (l : List Nat) (v : Nat) (w : World) (hl : l.length ≤ 2097152) (hlb : ∀ x ∈ l, x < 256) (hv : v < 65536) :
    Calls Try.prog 62 #[.string (strN l), .int .i64 v] w fun e w' => e = .returned (.int .i64 (crcN l v)) ∧ w = w' := by
  have := crcn_i (strN l) v w (by rw [strN_size]; exact hl) hv
  rwa [bts_strN hlb] at this
theorem getD_some {l : List Nat} {k x : Nat} (h : l[k]? = some x) : l.getD k 0 = x := by rw [List.getD_eq_getElem?_getD, h]; rfl
theorem wrap_pow (k : Nat) (h : k < 64) : IntKind.u64.wrap (2 ^ k) = ((2 ^ k : Nat) : Int) := by
  have hp : 2 ^ k < 18446744073709551616 := Nat.lt_of_lt_of_le (Nat.pow_lt_pow_right (by omega) h) (by decide)
  have e : ((2 : Int) ^ k) = ((2 ^ k : Nat) : Int) := by push_cast; rfl
  rw [e, IntKind.wrap_u64]; exact Int.emod_eq_of_lt (Int.natCast_nonneg _) (Int.ofNat_lt.2 hp)
abbrev RowL (κ : IntKind) (e : TypeId) (B : Nat) (w : World) (v : Value) (l : List Rw) : Prop := OwnL (rc κ) 2 e B w v l
set_option maxRecDepth 20000 in
set_option maxHeartbeats 8000000 in
theorem rows_i (s : ByteArray) (u : List Nat) (v : Value) (crc : Nat) (w : World) (h : IntsAt w v (intsN u)) (hu : ∀ b ∈ u, b < 8 * s.size) (hs : s.size ≤ 64) (hm : u.length ≤ 64) (hc : crc < 65536) :
    Calls Try.prog 69 #[.string s, v, .int .i64 crc] w fun e w' => RetL (rc .i64) 2 83 w (rowsR s.size u (crcN (clrN (bts s) u) 65535 ^^^ crc)) e w' := by
  obtain ⟨i0, hi, hz0, hz1, hz2⟩ := info_parts rowi_info
  have HI := Lib.hid h
  have HU := Lib.hid hu
  have HCL := Lib.hid (fun w' (hb : Below w.heap.size w w') => clear_i s u v w' (h.below hb) hu (by omega) (by omega))
  have HCR := Lib.hid (fun w' => crcl_i (clrN (bts s) u) 65535 w' (by rw [clrN_len, bts_len]; omega) (clrN_lt bts_lt) (by omega))
  have hcn := crcN_lt (clrN (bts s) u) 65535 (by omega)
  generalize crcN (clrN (bts s) u) 65535 = cn at *
  have hx := i64_xor_nat cn crc (by omega) (by omega)
  have hrl : cn ^^^ crc < 65536 := Nat.xor_lt_two_pow (n := 16) hcn hc
  generalize cn ^^^ crc = rest at *
  obtain ⟨A, cA, rfl, _⟩ := h
  simp only [intsN_len] at HCL ⊢
  clear hu
  go_enter Try.func69, Try.ntmps69
  go_wp2_with (at_make; refine wpList_make_full _ rfl _ _ _ rfl w.heap.size 83 i0 (.agg #[.int .u64 0, .int .i64 0]) 2 Try.underlying79 hi hz0 hz1 .i64 .i64 _ _ 16 rfl rfl rfl rfl (by rw [hz2]; omega) (by unfold maxLen; omega) (Nat.le_refl _) ?_; intro w1 hown hgrow)
  have hb0 : Below w.heap.size w w1 := (Below.refl _ _).grown hgrow (Nat.le_refl _) (by simp)
  rw [made_flat (f := rc .i64) (rc_len .i64) (by omega) (⟨0, false⟩ : Rw) (Value.agg #[.int .u64 0, .int .i64 0]).cells rfl] at hown
  have HO1 : Hid (RowL .i64 83 w.heap.size w1 (.slice (some ⟨w.heap.size, 0, none⟩) 16 16) (rowsB rest 0)) := Lib.hid hown
  clear hgrow hown
  go_wp2_with (fail)
  refine (HCL.out _ hb0).mono ?_; rintro e w2 ⟨rfl, hb2⟩
  go_wp2_with (fail)
  refine (HCR.out _).mono ?_; rintro e w3 ⟨rfl, rfl⟩
  have HO2 := Lib.hid (OwnL.below HO1.out hb2)
  have hb02 := hb0.trans (hb2.mono hb0.size)
  clear HO1 HCL HCR hb2 hb0
  go_wp2
  go_loopw [23] (fun i wr => ∃ k : Nat, k ≤ 16 ∧ i = .int .i64 k ∧ Below w.heap.size w wr ∧ Hid (RowL .i64 83 w.heap.size wr (.slice (some ⟨w.heap.size, 0, none⟩) 16 16) (rowsB rest k))) (fun i _ => 16 - (intOf i).toNat)
  case atStart => exact ⟨0, by omega, rfl, hb02, HO2⟩
  case round =>
    obtain ⟨k, hk, rfl, hb, HO⟩ := hrel
    by_cases hlt : k < 16
    · obtain ⟨j, hj⟩ : ∃ j, j + k = 15 := ⟨15 - k, by omega⟩
      have e1 : (15 : Int) - (k : Int) = (j : Int) := by omega
      have ej : 15 - k = j := by omega
      have hbv := i64_bit rest j (by omega)
      have hg := (World.ownsRow.lt HO.out _ rfl).2
      have q1 := OwnL.at1 (rc_len .i64) HO.out (rowsB_get hlt) (j := 1) rfl
      have z0 := fun j => OwnL.frozen (j := j) HO.out
      have HS := Lib.hid (OwnL.set1 (rc_len .i64) HO.out (rowsB_get hlt) (j := 1) (a' := ⟨0, rest.testBit (15 - k)⟩) (u := .int .i64 (bi (rest.testBit (15 - k)))) (by omega) rfl)
      rw [rowsB_set, ej] at HS
      clear ej
      go_wp2
      go_roundw
      case rel => exact ⟨k + 1, by omega, by go_num, (by repeat (first | exact Below.refl _ _ | refine Below.alloc ?_ (by first | omega | (simp; done) | (simp; omega)) _ | apply Below.drew | apply below_drewN | refine Below.setCell ?_ (by first | omega | (simp; done) | (simp; omega)) _ | refine Below.trans ?_ (Below.mono (by assumption) (by first | omega | (simp; done) | (simp; omega))))), HS⟩
      case measure => simp [intOf]; omega
    · obtain rfl : k = 16 := by omega
      rw [rowsB_end s.size u] at HO
      have hbo := hb
      generalize hwo : wr = wo at *; clear hwo
      clear HO2 hb02
      go_wp2
      go_loopw [38] (fun i wr => ∃ k : Nat, k ≤ u.length ∧ i = .int .i64 k ∧ Below w.heap.size w wr ∧ Hid (RowL .i64 83 w.heap.size wr (.slice (some ⟨w.heap.size, 0, none⟩) 16 16) (rowsP s.size u rest k 0))) (fun i _ => u.length - (intOf i).toNat)
      case atStart => exact ⟨0, by omega, rfl, hbo, HO⟩
      case round =>
        clear HO hbo
        obtain ⟨k, hk, rfl, hb, HO⟩ := hrel
        by_cases hltk : k < u.length
        · obtain ⟨b, hbk⟩ : ∃ b, u[k]? = some b := ⟨u[k], List.getElem?_eq_getElem hltk⟩
          have hbs := HU.out b (List.mem_of_getElem? hbk)
          have HB := Lib.hid (getD_some hbk)
          obtain ⟨A', c', hv, hA⟩ := HI.out
          injection hv with hv _ hcap
          subst hcap
          obtain ⟨g, hg1, hg, hcc⟩ := hA.resolve_left (by intro h0; have := congrArg List.length h0; rw [intsN_len] at this; simp only [List.length_nil] at this; omega)
          rw [hg1] at hv
          subst hv
          have pk := (hb.cell (p := ⟨g, k, none⟩) hg).trans (hcc k _ (intsN_get hbk))
          have HE := Lib.hid (fun w' => eff_i s.size b w' hs hbs)
          have hel := effN_lt s.size b
          have HM1 := Lib.hid (fun i hi => maskR_yes (n := s.size) (i := i) HB.out hi)
          have HM0 := Lib.hid (fun i hi => maskR_no (n := s.size) (i := i) HB.out hi)
          generalize effN s.size b = ef at *
          clear hcc hbk HB hg1 hA
          go_wp2_with (fail)
          refine (HE.out _).mono ?_; rintro e w4 ⟨rfl, hb4⟩
          have HO4 := Lib.hid (OwnL.below HO.out hb4)
          have hb04 := hb.trans (hb4.mono hb.size)
          clear HO hb hb4 HE pk
          go_wp2
          go_loopw [49] (fun i wr => ∃ j : Nat, j ≤ 16 ∧ i = .int .i64 j ∧ Below w.heap.size w wr ∧ Hid (RowL .i64 83 w.heap.size wr (.slice (some ⟨w.heap.size, 0, none⟩) 16 16) (rowsP s.size u rest k j))) (fun i _ => 16 - (intOf i).toNat)
          case atStart => exact ⟨0, by omega, rfl, hb04, HO4⟩
          case round =>
            clear HO4 hb04
            obtain ⟨i, hi2, rfl, hb, HO⟩ := hrel
            by_cases hlt : i < 16
            · obtain ⟨j, hj⟩ : ∃ j, j + i = 15 := ⟨15 - i, by omega⟩
              have e1 : (15 : Int) - (i : Int) = (j : Int) := by omega
              have ej : 15 - i = j := by omega
              have hbv := i64_bit ef j (by omega)
              cases hbit : ef.testBit j
              · rw [hbit, bi_f] at hbv
                have HM := Lib.hid (rowsP_same (rest := rest) (HM0.out i (by rw [ej]; exact hbit)))
                clear ej
                go_wp2
                go_roundw
                case rel => exact ⟨i + 1, by omega, by go_num, hb, by rw [HM.out]; exact HO⟩
                case measure => simp [intOf]; omega
              · rw [hbit, bi_t] at hbv
                have hg3 := (World.ownsRow.lt HO.out _ rfl).2
                have q1 := OwnL.at1 (rc_len .i64) HO.out (rowsP_get hlt) (j := 0) rfl
                have z0 := fun j => OwnL.frozen (j := j) HO.out
                have HS := Lib.hid (OwnL.set1 (rc_len .i64) HO.out (rowsP_get hlt) (j := 0) (a' := ⟨maskR s.size u i (k + 1), rest.testBit (15 - i)⟩) (u := .int .u64 (maskR s.size u i (k + 1) : Nat)) (by omega) rfl)
                rw [rowsP_set] at HS
                simp only [Nat.add_zero] at HS
                have hmb := maskR_64 s.size u i (K := k) (by omega)
                have hpw : 2 ^ k < 18446744073709551616 := Nat.lt_of_lt_of_le (Nat.pow_lt_pow_right (by omega) (by omega : k < 64)) (by decide)
                have hor := u64_or_nat (maskR s.size u i k) (2 ^ k) hmb hpw
                rw [← HM1.out i (by rw [ej]; exact hbit)] at hor
                rw [← wrap_pow k (by omega)] at hor
                generalize maskR s.size u i (k + 1) = m1 at *
                generalize maskR s.size u i k = m0 at *
                have r1 : wr.drew.cell? ⟨w.heap.size, i * 2, none⟩ = some (.int .u64 (m0 : Nat)) := by simpa using q1
                have r0 := fun j => (show wr.drew.frozen? ⟨w.heap.size, j, none⟩ = false from z0 j)
                clear ej q1 z0
                go_wp2
                go_still_tail 10, (by kernel_rfl)
                go_wp2
                go_roundw
                case rel => exact ⟨i + 1, by omega, by go_num, (by repeat (first | exact Below.refl _ _ | refine Below.alloc ?_ (by first | omega | (simp; done) | (simp; omega)) _ | apply Below.drew | apply below_drewN | refine Below.setCell ?_ (by first | omega | (simp; done) | (simp; omega)) _ | refine Below.trans ?_ (Below.mono (by assumption) (by first | omega | (simp; done) | (simp; omega))))), Lib.hid (OwnL.below HS.out ((Qt.refl _).drew.below _))⟩
                case measure => simp [intOf]; omega
            · obtain rfl : i = 16 := by omega
              rw [rowsP_all] at HO
              go_wp2
              go_roundw
              case rel => (repeat apply Exists.intro); exact ⟨⟨k + 1, by omega, by go_num, hb, HO⟩, rfl⟩
              case measure => simp [intOf]; omega
        · obtain rfl : k = u.length := by omega
          rw [rowsP_end] at HO
          go_wp2
          go_ret
          exact ⟨_, rfl, HO.out, hb⟩
end Go.Proofs.Ytklalbbacbaoiaa
