/- l25Least, FirstFill, spec: the walks. -/
import Derived.Test.YtklalbbacbaoiaaFilS
import Derived.Test.YtklalbbacbaoiaaFirI
namespace Go.Proofs.Ytklalbbacbaoiaa
set_option linter.unusedVariables false
open Go.RowKit
theorem least_none {b : List Rw} {k : Nat} (h : redS (leastR b k ++ [⟨2 ^ k, false⟩]) = none) : leastR b (k + 1) = leastR b k := by rw [leastR, h]; rfl
theorem least_some {b y : List Rw} {k : Nat} (h : redS (leastR b k ++ [⟨2 ^ k, false⟩]) = some y) : leastR b (k + 1) = y := by rw [leastR, h]; rfl
set_option maxRecDepth 20000 in
set_option maxHeartbeats 2000000 in
theorem least_s (s : ByteArray) (u : List Nat) (v rv : Value) (b : List Rw) (w : World) (B : Nat) (h : IntsAt w v (intsN u)) (hr : RowL .u64 107 B w rv b) (hu : ∀ b ∈ u, b < 8 * s.size) (hs : s.size ≤ 64) (hm : u.length ≤ 64)
    (hl : ∀ k, k ≤ u.length → (∀ e ∈ leastR b k, e.m ≠ 0 ∧ e.m < 2 ^ u.length) ∧ (leastR b k).length ≤ 128) :
    Calls Try.prog 76 #[.string s, v, rv] w fun e w' => e = .returned (.string (strN (fillN (bts s) u (comp low (leastR b u.length) 0).testBit))) ∧ Below w.heap.size w w' := by
  obtain ⟨i0, hi, hz0, hz1, hz2⟩ := info_parts rowu_info
  have HI := Lib.hid h
  have HL := Lib.hid hl
  have HFI := Lib.hid (fun W (hb : Below w.heap.size w W) rv' (hr : RowsAt .u64 W rv' (leastR b u.length)) => fill_s s u v rv' (leastR b u.length) 0 W (h.below hb) hr hu hs hm (hl u.length (Nat.le_refl _)).1 (by decide) (by have := (hl u.length (Nat.le_refl _)).2; omega))
  have HO0 : Hid (RowL .u64 107 0 w rv (leastR b 0)) := Lib.hid (OwnL.base hr (Nat.zero_le _))
  obtain ⟨A, cA, rfl, hA⟩ := h
  simp only [intsN_len] at HFI ⊢
  obtain ⟨Ar, cr, rfl, _⟩ := OwnL.shape hr
  clear hr hl
  go_enter Try.func76, Try.ntmps76
  go_wp2
  go_loopw [7, 2] (fun i x wr => ∃ k : Nat, k ≤ u.length ∧ i = .int .i64 k ∧ Below w.heap.size w wr ∧ Hid (RowL .u64 107 0 wr x (leastR b k))) (fun i _ _ => u.length - (intOf i).toNat)
  case atStart => exact ⟨0, Nat.zero_le _, rfl, Below.refl _ _, HO0⟩
  case round =>
    clear HO0
    obtain ⟨k, hk, rfl, hb, HO⟩ := hrel
    have zr := hb.size
    obtain ⟨Ax, cx, rfl, _⟩ := OwnL.shape HO.out
    by_cases hlt : k < u.length
    · have hlen := (HL.out k hk).2
      have hkb := (HL.out k hk).1
      have hpw := wrap_pow k (by omega)
      have hpw2 : IntKind.u64.wrap (2 ^ min k 64) = ((2 ^ k : Nat) : Int) := by rw [Nat.min_eq_left (by omega)]; exact hpw
      have hp64 : 2 ^ k < 18446744073709551616 := Nat.lt_of_lt_of_le (Nat.pow_lt_pow_right (by omega) (by omega : k < 64)) (by decide)
      have HRE := Lib.hid (fun W v3 (o : RowL .u64 107 wr.heap.size W v3 (leastR b k ++ [⟨2 ^ k, false⟩])) => red_s wr.heap.size (leastR b k ++ [⟨2 ^ k, false⟩]) v3 W o (fun e he => by
        rcases List.mem_append.1 he with he | he
        · exact Nat.lt_of_lt_of_le (hkb e he).2 (show 2 ^ u.length ≤ 2 ^ 64 from Nat.pow_le_pow_right (by omega) hm)
        · obtain rfl : e = ⟨2 ^ k, false⟩ := by simpa using he
          exact hp64) (by simp; omega))
      unfold redQ at HRE
      have HLN := Lib.hid (fun h => least_none (b := b) (k := k) h)
      have HLS := Lib.hid (fun y h => least_some (b := b) (k := k) (y := y) h)
      generalize hX : redS (leastR b k ++ [⟨2 ^ k, false⟩]) = X at HRE
      have HX := Lib.hid hX
      generalize hL1 : leastR b k = L1 at *
      have HL1 := Lib.hid hL1
      generalize 2 ^ k = pw at *
      clear hX hL1 hkb hp64
      have hal : Below wr.heap.size wr (wr.alloc (.cells #[] 107)) := Below.alloc (Below.refl _ _) (Nat.le_refl _) _
      have HE1 : Hid (RowL .u64 107 wr.heap.size (wr.alloc (.cells #[] 107)) (.slice (some ⟨wr.heap.size, 0, none⟩) 0 0) []) := Lib.hid (OwnL.of_empty wr (Nat.le_refl _))
      have HOa := Lib.hid (HO.out.alloc (.cells #[] 107))
      have hn1 : ([] : List Rw).length + L1.length ≤ 16777216 := by simp; omega
      have hn2 : L1.length + 1 ≤ 16777216 := by omega
      have hsz := hal.size
      go_wp2_with (first
        | (at_builtin; refine wpList_appAll (rc .u64) 2 (rc_len .u64) _ rfl _ _ _ rfl wr.heap.size 0 107 107 i0 (.agg #[.int .u64 0, .int .u64 0]) 16 Try.underlying73 hi hz0 hz1 hz2 rfl (by decide) _ [] rfl HE1.out _ L1 rfl HOa.out (rc_one .u64) hn1 (by decide) hsz ?_; intro lv2 w2 how2 hg2'; have hb2 : Below wr.heap.size wr w2 := own_grown_below HE1.out hal hg2' (Nat.le_refl _) hsz; have HO2 : Hid (RowL .u64 107 wr.heap.size w2 lv2 L1) := Lib.hid how2; have z2 := hb2.size; have hbase2 : wr.heap.size ≤ (w2.alloc (.cells #[.int .u64 (pw : Nat), .int .u64 0] 107)).heap.size := Nat.le_trans z2 (Below.alloc (Below.refl w2.heap.size w2) (Nat.le_refl _) (.cells #[.int .u64 (pw : Nat), .int .u64 0] 107)).size; clear how2 hg2')
        | (at_builtin; refine wpList_app1 (rc .u64) 2 (rc_len .u64) _ rfl _ _ _ rfl wr.heap.size 107 i0 (.agg #[.int .u64 0, .int .u64 0]) 16 Try.underlying73 hi hz0 hz1 hz2 rfl (by decide) _ L1 rfl (HO2.out.alloc _) _ 1 ⟨pw, false⟩ rfl ?_ (rc_one .u64 _) hn2 (by decide) hbase2 ?_; (· exact rowc_news .u64 pw false (by simp) (by simp [bi_f])); intro lv3 w3 how3 hg3'; have hb3 : Below wr.heap.size wr w3 := own_grown_below (HO2.out.alloc (.cells #[.int .u64 (pw : Nat), .int .u64 0] 107)) (Below.alloc hb2 z2 _) hg3' (Nat.le_refl _) hbase2; have HO3 := Lib.hid how3; clear how3 hg3'))
      refine (HRE.out _ _ HO3.out).mono ?_; rintro e w4 ⟨v4, rfl, o4, hb4⟩
      have hb04 : Below wr.heap.size wr w4 := hb3.trans (hb4.mono hb3.size)
      have hbw4 : Below w.heap.size w w4 := hb.trans (hb04.mono zr)
      cases X with
      | none =>
        have HN := Lib.hid (HLN.out HX.out)
        have HO4 := Lib.hid (OwnL.below HO.out hb04)
        go_wp2
        go_roundw
        case rel => exact ⟨k + 1, by omega, by go_num, hbw4, by rw [HN.out]; exact HO4⟩
        case measure => simp [intOf]; omega
      | some y =>
        have HN := Lib.hid (HLS.out y HX.out)
        have HO4 : Hid (RowL .u64 107 0 w4 v4 y) := Lib.hid (OwnL.base o4 (Nat.zero_le _))
        go_wp2
        go_roundw
        case rel => exact ⟨k + 1, by omega, by go_num, hbw4, by rw [HN.out]; exact HO4⟩
        case measure => simp [intOf]; omega
    · obtain rfl : k = u.length := by omega
      have HRA := Lib.hid (RowsAt.own HO.out)
      generalize hsr : strN (fillN (bts s) u (comp low (leastR b u.length) 0).testBit) = sr at HFI
      have HSR := Lib.hid hsr
      clear hsr HL
      generalize leastR b u.length = L1 at HO HRA HFI ⊢
      go_wp2_with (fail)
      refine (HFI.out _ hb _ HRA.out).mono ?_; rintro e w4 ⟨rfl, hb4⟩
      go_wp2
      go_ret
      exact ⟨by rw [HSR.out]; rfl, hb.trans (hb4.mono zr)⟩
set_option maxRecDepth 20000 in
set_option maxHeartbeats 2000000 in
theorem fir_s (s : ByteArray) (l : List Int) (v : Value) (c : Int) (w : World) (h : IntsAt w v l) (hm : l.length ≤ 1048576) (hs : s.size ≤ 1048576) :
    Calls Try.prog 36 #[.string s, v, .int .i64 c] w fun e w' => e = .returned (fiV s l c) ∧ Below w.heap.size w w' := by
  cases hok : unkOk s l c
  · have HF := Lib.hid (fiV_no hok)
    have HS := Lib.hid (solved_no s l v c w h hm hs hok)
    obtain ⟨A, cA, rfl, _⟩ := h
    go_enter Try.func36, Try.ntmps36
    go_wp2_with (fail)
    refine HS.out.mono ?_; rintro e w1 ⟨rfl, hb1⟩
    go_wp2
    rw [HF.out]
    exact bodyPost_ret (by simp [results, Try.results36, go_sem]; try rfl) rfl ⟨rfl, hb1⟩
  · obtain ⟨u, k, rfl, rfl, hk, hs1, hs2, hul, hub, hur⟩ := unk_nat hok
    have hok' : unkOk s (intsN u) (k : Int) = true := hok
    have HS := Lib.hid (solved_s s u v k w h hok' hub hs2 hul hk)
    have hI : IntsAt w v (intsN u) := h
    have HI := Lib.hid hI
    obtain ⟨A, cA, hv, _⟩ := h
    rw [show (u.map fun i : Nat => (i : Int)).length = u.length by simp] at hv
    subst hv
    unfold solQ at HS
    have hbo := red_both piv_top hul (rowsR_lt s.size u (restOf s u k))
    have he2 : rowsR s.size u (restOf s u k) = rowsOf s u k := rfl
    rw [he2] at hbo
    clear hok
    rcases hbo with ⟨h1, h2, _⟩ | ⟨a, b, h1, h2, hra, hrb, _, hua, hub2, hsa, hsb, hab, hal⟩
    · have HF : Hid (fiV s (u.map fun i : Nat => (i : Int)) (k : Int) = _) := Lib.hid (fiV_none hok' h2)
      rw [h2] at HS
      clear h1 h2 he2
      go_enter Try.func36, Try.ntmps36
      go_wp2_with (fail)
      refine HS.out.mono ?_; rintro e w1 ⟨v1, rfl, o1, hb1⟩
      obtain ⟨A1, c1, rfl, _⟩ := OwnL.shape o1
      have hcd : cdO none = 3 := rfl
      go_wp2
      rw [HF.out]
      exact bodyPost_ret (by simp [results, Try.results36, go_sem]; try rfl) rfl ⟨rfl, hb1⟩
    · have HF : Hid (fiV s (u.map fun i : Nat => (i : Int)) (k : Int) = _) := Lib.hid (fiV_some hok' h2)
      have hx := (hra.sol (fun _ => false))
      obtain ⟨x, hx1, hx2⟩ := hx
      have hl : ∀ i, i ≤ u.length → (∀ e ∈ leastR b i, e.m ≠ 0 ∧ e.m < 2 ^ u.length) ∧ (leastR b i).length ≤ 128 := fun i hi => by
        obtain ⟨k1, k2, _, _, k5⟩ := least_inv hul hra hua hrb hub2 (fun x => (hsa x).trans (hsb x).symm) hx1 (fun k _ hp => hx2 k hp) hi
        rw [rowsOf_len] at hal
        exact ⟨fun e he => ⟨fun e0 => (by have := k1.on e he; rw [e0] at this; simp at this), k2 e he⟩, by omega⟩
      have HLS := Lib.hid (fun W B rv (hb : Below w.heap.size w W) (hr : RowL .u64 107 B W rv b) => least_s s u _ rv b W B (HI.out.below hb) hr hub hs2 hul hl)
      rw [h2] at HS
      have HS' : Hid (Calls Try.prog 71 #[.string s, .slice A u.length cA, .int .i64 k] w fun e w' => ∃ v', e = .returned (.tuple #[v', .int .i64 0]) ∧ RowL .u64 107 w.heap.size w' v' b ∧ Below w.heap.size w w') := HS
      generalize hsr : strN (fillN (bts s) u (comp low (leastR b u.length) 0).testBit) = sr at HLS HF
      clear h1 h2 he2 hl hx1 hx2 hra hrb hua hub2 hsa hsb hsr HI HS
      go_enter Try.func36, Try.ntmps36
      go_wp2_with (fail)
      refine HS'.out.mono ?_; rintro e w1 ⟨v1, rfl, o1, hb1⟩
      have HO1 := Lib.hid o1
      obtain ⟨A1, c1, rfl, _⟩ := OwnL.shape o1
      have z1 := hb1.size
      clear o1
      go_wp2_with (fail)
      refine (HLS.out _ _ _ hb1 HO1.out).mono ?_; rintro e w2 ⟨rfl, hb2⟩
      go_wp2
      rw [HF.out]
      exact bodyPost_ret (by simp [results, Try.results36, go_sem]; try rfl) rfl ⟨rfl, hb1.trans (hb2.mono z1)⟩
end Go.Proofs.Ytklalbbacbaoiaa
