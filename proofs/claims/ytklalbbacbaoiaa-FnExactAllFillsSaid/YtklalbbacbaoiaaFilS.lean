/- l25First, l25Fill: the walks. -/
import Derived.Test.YtklalbbacbaoiaaRedS
import Derived.Test.YtklalbbacbaoiaaFilP
namespace Go.Proofs.Ytklalbbacbaoiaa
set_option linter.unusedVariables false
open Go.RowKit
theorem low_lt {m : Nat} (h0 : m ≠ 0) (h : m < 18446744073709551616) : low m < 64 := bit_lt (show m < 2 ^ 64 from h) (low_on m h0)
set_option maxHeartbeats 1000000 in
theorem first_s (r : Rw) (w : World) (h0 : r.m ≠ 0) (h : r.m < 18446744073709551616) :
    Calls Try.prog 94 #[.agg #[.int .u64 r.m, .int .u64 (bi r.r)]] w fun e w' => e = .returned (.int .i64 (low r.m)) ∧ Below w.heap.size w w' := by
  have hl := low_lt h0 h
  have HON := Lib.hid (low_on r.m h0)
  have HMN := Lib.hid (low_min r.m)
  have hb0 : Below w.heap.size w (w.alloc (.cells #[.int .u64 r.m, .int .u64 (bi r.r)] 107)) := Below.alloc (Below.refl _ _) (Nat.le_refl _) _
  have x0 : (w.alloc (.cells #[.int .u64 r.m, .int .u64 (bi r.r)] 107)).cell? ⟨w.heap.size, 0, none⟩ = some (.int .u64 r.m) := by simp [go_sem]
  go_enter Try.func94, Try.ntmps94
  go_wp2
  generalize hwo : w.alloc (.cells #[.int .u64 r.m, .int .u64 (bi r.r)] 107) = wo at *; clear hwo
  go_loop [3] (fun i => ∃ k : Nat, k ≤ low r.m ∧ i = .int .i64 k) (fun i => low r.m - (intOf i).toNat)
  case atStart => exact ⟨0, by omega, rfl⟩
  case round =>
    obtain ⟨k, hk, rfl⟩ := hrel
    have hbv := u64_bit r.m k h
    have hbv2 : bits .and .u64 ((r.m : Int) / 2 ^ min k 64) 1 = bi (r.m.testBit k) := by rw [Nat.min_eq_left (by omega)]; exact hbv
    by_cases hlt : k < low r.m
    · rw [HMN.out k hlt, bi_f] at hbv hbv2
      go_wp2
      go_round
      case rel => exact ⟨k + 1, by omega, by go_num⟩
      case measure => simp [intOf]; omega
    · obtain rfl : k = low r.m := by omega
      rw [HON.out, bi_t] at hbv hbv2
      go_wp2
      go_ret
      exact ⟨rfl, hb0⟩
theorem dotN_next {m n : Nat} {x : Nat → Bool} : dotN (n + 1) m x = (dotN n m x ^^ (m.testBit n && x n)) := rfl
/-- one bit of a mask and of the chosen values -/
theorem u64_two (m v k : Nat) (hm : m < 18446744073709551616) (hv : v < 18446744073709551616) : bits .and .u64 (bits .and .u64 ((m : Int) / 2 ^ k) ((v : Int) / 2 ^ k)) 1 = bi (m.testBit k && v.testBit k) := by
  have e1 : ((m : Int) / 2 ^ k) = ((m / 2 ^ k : Nat) : Int) := by push_cast; rfl
  have e2 : ((v : Int) / 2 ^ k) = ((v / 2 ^ k : Nat) : Int) := by push_cast; rfl
  have h1 : m / 2 ^ k < 18446744073709551616 := Nat.lt_of_le_of_lt (Nat.div_le_self _ _) hm
  have h2 : v / 2 ^ k < 18446744073709551616 := Nat.lt_of_le_of_lt (Nat.div_le_self _ _) hv
  have h3 : m / 2 ^ k &&& v / 2 ^ k < 18446744073709551616 := Nat.lt_of_le_of_lt Nat.and_le_left h1
  rw [e1, e2, u64_and_nat _ _ h1 h2, show (1 : Int) = ((1 : Nat) : Int) from rfl, u64_and_nat _ 1 h3 (by omega), Nat.and_one_is_mod]
  have := mod2_bi (m / 2 ^ k &&& v / 2 ^ k) 0
  simp only [Nat.pow_zero, Nat.div_one] at this
  rw [this, Nat.testBit_and, Nat.testBit_div_two_pow, Nat.testBit_div_two_pow]; simp
theorem bi_shl (b : Bool) (p : Nat) (hp : p < 64) : IntKind.u64.wrap (bi b * 2 ^ p) = ((if b then 2 ^ p else 0 : Nat) : Int) := by
  cases b
  · simp [bi_f, IntKind.wrap_u64]
  · rw [bi_t, Int.one_mul, if_pos rfl]; exact wrap_pow p hp
theorem compK_or {rows : List Rw} {V0 k : Nat} {e : Rw} (h : rows[k]? = some e) {d : Bool} (hd : (e.r ^^ dot e.m V0.testBit) = d) : compK low rows V0 (k + 1) = compK low rows V0 k ||| (if d then 2 ^ low e.m else 0) := by
  rw [compK_next h]
  have : (dot e.m V0.testBit != e.r) = d := by rw [← hd]; cases dot e.m V0.testBit <;> cases e.r <;> rfl
  rw [this]; cases d <;> simp
set_option maxRecDepth 20000 in
set_option maxHeartbeats 4000000 in
theorem fill_s (s : ByteArray) (u : List Nat) (v rv : Value) (rows : List Rw) (V0 : Nat) (w : World) (h : IntsAt w v (intsN u)) (hr : RowsAt .u64 w rv rows) (hu : ∀ b ∈ u, b < 8 * s.size) (hs : s.size ≤ 64) (hm : u.length ≤ 64)
    (hrm : ∀ e ∈ rows, e.m ≠ 0 ∧ e.m < 2 ^ u.length) (hV : V0 < 18446744073709551616) (hrl : rows.length ≤ 1048576) :
    Calls Try.prog 80 #[.string s, v, rv, .int .u64 V0] w fun e w' => e = .returned (.string (strN (fillN (bts s) u (comp low rows V0).testBit))) ∧ Below w.heap.size w w' := by
  have hrm64 : ∀ e ∈ rows, e.m ≠ 0 ∧ e.m < 18446744073709551616 ∧ dotN u.length e.m V0.testBit = dot e.m V0.testBit := fun e he => by
    obtain ⟨h1, h2⟩ := hrm e he
    exact ⟨h1, Nat.lt_of_lt_of_le h2 (show 2 ^ u.length ≤ 2 ^ 64 from Nat.pow_le_pow_right (by omega) hm), (dotN_le hm h2).symm⟩
  have HRM := Lib.hid hrm64
  have HCK := Lib.hid (fun k => compK_lt (p := low) (rows := rows) (V0 := V0) (fun e he => low_lt (hrm64 e he).1 (hrm64 e he).2.1) hV k)
  have HCL := Lib.hid (fun w' (hb : Below w.heap.size w w') => clear_s s u v w' (h.below hb) hu (by omega) (by omega))
  have HU := Lib.hid hu
  have bl := bts_len s
  obtain ⟨A, cA, rfl, hA⟩ := h
  obtain ⟨Ar, cr, rfl, hR⟩ := hr
  simp only [intsN_len] at HCL ⊢
  unfold clrQ2 at HCL
  clear hrm64 hrm hu
  have HE : Hid (fillN (bts s) u (comp low rows V0).testBit = fillK (clrN (bts s) u) u (comp low rows V0).testBit u.length) := Lib.hid rfl
  go_enter Try.func80, Try.ntmps80
  go_wp2
  go_loopw [10, 9] (fun i x wr => ∃ k : Nat, k ≤ rows.length ∧ i = .int .i64 k ∧ x = .int .u64 (compK low rows V0 k : Nat) ∧ Below w.heap.size w wr) (fun i _ _ => rows.length - (intOf i).toNat)
  case atStart => exact ⟨0, by omega, rfl, by rw [compK_zero], Below.refl _ _⟩
  case round =>
    obtain ⟨k, hk, rfl, rfl, hb⟩ := hrel
    have zr := hb.size
    by_cases hlt : k < rows.length
    · obtain ⟨e, he⟩ : ∃ e, rows[k]? = some e := ⟨rows[k], List.getElem?_eq_getElem hlt⟩
      obtain ⟨g, rfl, hg, hcc⟩ := hR.resolve_left (by intro h0; rw [h0] at hlt; simp at hlt)
      have k0 := (hb.cell (p := ⟨g, _, none⟩) hg).trans (hcc k e he).1
      have k1 := (hb.cell (p := ⟨g, _, none⟩) hg).trans (hcc k e he).2
      obtain ⟨hm0, hm64, hdn⟩ := HRM.out e (List.mem_of_getElem? he)
      have HFI := Lib.hid (fun W => first_s e W hm0 hm64)
      have hlow := low_lt hm0 hm64
      have hck := HCK.out k
      have HN := Lib.hid (compK_or he (d := e.r ^^ dot e.m V0.testBit) rfl)
      have hck2 := HCK.out (k + 1)
      generalize hV2 : compK low rows V0 (k + 1) = V2 at *
      have HV2 := Lib.hid hV2
      clear hV2
      generalize compK low rows V0 k = V1 at *
      clear he hcc
      go_wp2
      go_loop [12, 11] (fun i x => ∃ j : Nat, j ≤ u.length ∧ i = .int .i64 j ∧ x = .int .u64 (bi (e.r ^^ dotN j e.m V0.testBit))) (fun i _ => u.length - (intOf i).toNat)
      case atStart => exact ⟨0, by omega, rfl, by simp [dotN]⟩
      case round =>
        obtain ⟨j, hj, rfl, rfl⟩ := hrel
        by_cases hltj : j < u.length
        · have h2 := u64_two e.m V0 j hm64 hV
          have h22 : bits .and .u64 (bits .and .u64 ((e.m : Int) / 2 ^ min j 64) ((V0 : Int) / 2 ^ min j 64)) 1 = bi (e.m.testBit j && V0.testBit j) := by rw [Nat.min_eq_left (by omega)]; exact h2
          have hx := bi_xor_u (e.r ^^ dotN j e.m V0.testBit) (e.m.testBit j && V0.testBit j)
          rw [Bool.xor_assoc] at hx
          have HX : Hid (dotN (j + 1) e.m V0.testBit = _) := Lib.hid dotN_next
          generalize dotN j e.m V0.testBit = d at *
          generalize (e.m.testBit j && V0.testBit j) = d2 at *
          go_wp2
          go_round
          case rel => exact ⟨j + 1, by omega, by go_num, by rw [HX.out]⟩
          case measure => simp [intOf]; omega
        · obtain rfl : j = u.length := by omega
          rw [hdn]
          have hor := u64_or_nat V1 (if (e.r ^^ dot e.m V0.testBit) then 2 ^ low e.m else 0) hck (by
            split
            · exact Nat.lt_of_lt_of_le (Nat.pow_lt_pow_right (by omega) hlow) (by decide)
            · decide)
          rw [← HN.out, ← bi_shl _ _ hlow] at hor
          have hor2 : bits .or .u64 (V1 : Int) (IntKind.u64.wrap (bi (e.r ^^ dot e.m V0.testBit) * 2 ^ min (low e.m) 64)) = (V2 : Int) := by rw [Nat.min_eq_left (by omega)]; exact hor
          generalize dot e.m V0.testBit = d at *
          generalize (e.r ^^ d) = d3 at *
          go_wp2_with (fail)
          refine (HFI.out _).mono ?_; rintro e4 w4 ⟨rfl, hb4⟩
          have hb04 := hb.trans (hb4.mono zr)
          clear HFI
          go_wp2
          go_roundw
          case rel => exact ⟨k + 1, by omega, by go_num, by rw [HV2.out], hb04⟩
          case measure => simp [intOf]; omega
    · obtain rfl : k = rows.length := by omega
      rw [compK_end]
      have hck := HCK.out rows.length
      rw [compK_end] at hck
      generalize hVV : comp low rows V0 = V at *
      have HVV := Lib.hid hVV
      clear hVV
      generalize hwo : wr = wo at *; clear hwo
      go_wp2_with (fail)
      refine (HCL.out _ hb).mono ?_; rintro e4 w4 ⟨c4, rfl, hB4, z4, hb4⟩
      have hb04 := hb.trans (hb4.mono zr)
      have HB4 : Hid (Buf w4 wo.heap.size (fillK (clrN (bts s) u) u V.testBit 0)) := Lib.hid hB4
      clear hB4 HCL
      go_wp2
      go_loopw [14] (fun i wr => ∃ j : Nat, j ≤ u.length ∧ i = .int .i64 j ∧ Below w.heap.size w wr ∧ wo.heap.size < wr.heap.size ∧ Hid (Buf wr wo.heap.size (fillK (clrN (bts s) u) u V.testBit j))) (fun i _ => u.length - (intOf i).toNat)
      case atStart => exact ⟨0, by omega, rfl, hb04, z4, HB4⟩
      case round =>
        clear HB4 hb04 hb4 z4 hb
        obtain ⟨j, hj, rfl, hb, zz, HB⟩ := hrel
        by_cases hltj : j < u.length
        · obtain ⟨b, hbj⟩ : ∃ b, u[j]? = some b := ⟨u[j], List.getElem?_eq_getElem hltj⟩
          obtain ⟨gu, rfl, hgu, hcu⟩ := hA.resolve_left (by intro h0; have := congrArg List.length h0; rw [intsN_len] at this; simp only [List.length_nil] at this; omega)
          have p0 := (hb.cell (p := ⟨gu, j, none⟩) hgu).trans (hcu j _ (intsN_get hbj))
          have hbv := u64_bit V j hck
          have hbv2 : bits .and .u64 ((V : Int) / 2 ^ min j 64) 1 = bi (V.testBit j) := by rw [Nat.min_eq_left (by omega)]; exact hbv
          have hbs := HU.out b (List.mem_of_getElem? hbj)
          cases ht : V.testBit j
          · rw [ht, bi_f] at hbv hbv2
            have HN := Lib.hid (fillK_no (l := clrN (bts s) u) (unk := u) (x := V.testBit) ht)
            clear hbj ht hcu
            go_wp2
            go_roundw
            case rel => exact ⟨j + 1, by omega, by go_num, hb, zz, by rw [HN.out]; exact HB⟩
            case measure => simp [intOf]; omega
          · rw [ht, bi_t] at hbv hbv2
            have HN := Lib.hid (fillK_yes (l := clrN (bts s) u) (unk := u) (x := V.testBit) hbj ht)
            have hfl := flip_s wo.heap.size c4 b _ wr zz HB.out (by rw [fillK_len, clrN_len, bl]; exact hbs) (by rw [fillK_len, clrN_len, bl]; omega) (fillK_lt (clrN_lt bts_lt) j)
            rw [fillK_len, clrN_len, bl, ← HN.out] at hfl
            have HFL := Lib.hid hfl
            clear hbj ht hcu hfl
            go_wp2_with (fail)
            refine HFL.out.mono ?_; rintro e5 w5 ⟨rfl, hB5, hc5, s5⟩
            have hb5 : Below w.heap.size w w5 := Chg.below hb hc5 (by omega) (Nat.le_refl _)
            have z5 := hc5.size
            have HB5 := Lib.hid hB5
            clear hB5 hc5 s5 HFL
            go_wp2
            go_roundw
            case rel => exact ⟨j + 1, by omega, by go_num, hb5, by omega, HB5⟩
            case measure => simp [intOf]; omega
        · obtain rfl : j = u.length := by omega
          have hst := HB.out.str (n := s.size) (c := c4) (by rw [fillK_len, clrN_len]; exact bl)
          go_wp2
          go_ret
          exact ⟨by rw [HVV.out, HE.out]; rfl, hb⟩
end Go.Proofs.Ytklalbbacbaoiaa
