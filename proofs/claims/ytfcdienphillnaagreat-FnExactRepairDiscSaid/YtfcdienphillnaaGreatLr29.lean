/- SolveBytes, impl: the walk. l25First, l25Fill: the walks. SolveBytes, spec: the walk. -/
import Derived.Test.YtfcdienphillnaaGreatLr17
import Derived.Test.YtfcdienphillnaaGreatLr28
import Derived.Test.YtfcdienphillnaaGreatLr14
import Derived.Test.YtfcdienphillnaaGreatLr15
namespace Go.Proofs.YtfcdienphillnaaGreat
set_option linter.unusedVariables false
set_option linter.unusedSimpArgs false
open Go.RowKit
theorem sb_full {s : ByteArray} {U : List Nat} {b : List Rw} (h : b.length < U.length) : sbR s U (some b) = (.empty, 11) := by unfold sbR; exact if_pos h
theorem sb_one {s : ByteArray} {U : List Nat} {b : List Rw} (h : ¬ b.length < U.length) : sbR s U (some b) = (strN (fillN (bts s) U (comp low b 0).testBit), 0) := by unfold sbR; exact if_neg h
theorem one_free {a : List Rw} {u : Nat} (ha : Red top a) (hu : ∀ e ∈ a, e.m < 2 ^ u) : ((freeU top a u).length < 62 ∧ 2 ^ (freeU top a u).length ≤ 1) ↔ a.length = u := by
  have h := free_len ha (red_plt ha hu)
  constructor
  · rintro ⟨_, h2⟩
    have : (freeU top a u).length = 0 := by
      rcases Nat.eq_zero_or_pos (freeU top a u).length with h0 | h0
      · exact h0
      · have := Nat.pow_le_pow_right (n := 2) (by omega) h0; omega
    omega
  · intro e
    have : (freeU top a u).length = 0 := by omega
    rw [this]; exact ⟨by decide, by decide⟩
set_option maxRecDepth 20000 in
set_option maxHeartbeats 4000000 in
theorem sol_i (s : ByteArray) (l : List Int) (v : Value) (c : Int) (w : World) (h : IntsAt w v l) (hm : l.length ≤ 1048576) (hs : s.size ≤ 1048576) :
    Calls Tryz.prog 124 #[.string s, v, .int .i64 c] w fun e w' => e = .returned (sbV s l c) ∧ Below w.heap.size w w' := by
  obtain ⟨i0, hi, hz0, hz1, hz2⟩ := info_parts icell_info
  have HR := Lib.hid (rises_i l v 0 (s.size - 1) w h (by omega))
  cases hok : sbOk s l c
  · have HF := Lib.hid (sbV_no hok)
    have hb4 : Hid (∀ b1 b2 b3, inB s.size 1 64 = b1 → inB c 0 65535 = b2 → risesB 0 (s.size - 1) l = b3 → ((b1 && b2) && (b3 && decide (l.length ≤ 8))) = false) := Lib.hid (by rintro _ _ _ rfl rfl rfl; exact hok)
    obtain ⟨A, cA, rfl, _⟩ := h
    have H4 := hb4.out _ _ _ rfl rfl rfl
    generalize risesB 0 (s.size - 1) l = b3 at *
    generalize hb1 : inB s.size 1 64 = b1 at *
    generalize hb2 : inB c 0 65535 = b2 at *
    clear hok hb4
    by_cases h8 : l.length ≤ 8
    · rw [decide_eq_true h8] at H4
      cases b1 <;> cases b2 <;> cases b3 <;> first | (cases H4; done) | skip
      all_goals
        clear H4
        go_enter Tryz.func124, Tryz.ntmps124
        go_wp2_with (first | (go_at_call 51; refine (within_i _ _ _ _).mono ?_; rintro e w1 ⟨rfl, rfl⟩) | (go_at_call 144; refine HR.out.mono ?_; rintro e w1 ⟨rfl, rfl⟩) | (go_at_call 143; go_in))
        rw [HF.out]
        exact bodyPost_ret (by simp [results, Tryz.results124, go_sem]; first | done | rfl | exact ⟨rfl, rfl⟩) rfl ⟨rfl, Below.refl _ _⟩
    · cases b1 <;> cases b2 <;> cases b3
      all_goals
        clear H4
        go_enter Tryz.func124, Tryz.ntmps124
        go_wp2_with (first | (go_at_call 51; refine (within_i _ _ _ _).mono ?_; rintro e w1 ⟨rfl, rfl⟩) | (go_at_call 144; refine HR.out.mono ?_; rintro e w1 ⟨rfl, rfl⟩) | (go_at_call 143; go_in))
        rw [HF.out]
        exact bodyPost_ret (by simp [results, Tryz.results124, go_sem]; first | done | rfl | exact ⟨rfl, rfl⟩) rfl ⟨rfl, Below.refl _ _⟩
  · have hok2 := hok
    unfold sbOk at hok2
    rw [Bool.and_eq_true, Bool.and_eq_true, Bool.and_eq_true, decide_eq_true_eq] at hok2
    obtain ⟨⟨hb1, hb2⟩, hb3, h8⟩ := hok2
    obtain ⟨pl, rfl, hpm, hps⟩ := places_nat hb3
    have h1 := inB_yes hb1
    have h2 := inB_yes hb2
    obtain ⟨x, rfl⟩ : ∃ x : Nat, c = x := ⟨c.toNat, by omega⟩
    have HF := Lib.hid (sbV_yes hok)
    rw [intsN_len] at h8 hm
    rw [hb3] at HR
    obtain ⟨A, cA, rfl, hA⟩ := h
    have hUl := exN_len pl (8 * pl.length)
    have HX := Lib.hid (fun v W (h : IntsAt W v (intsN (exN pl (8 * pl.length)))) => fills_i s (exN pl (8 * pl.length)) v x 1 W h (fun b hb => exN_mem hpm hb) ((exN_srt hps).imp fun h => Nat.ne_of_lt h) (by omega) (by omega) (by omega) (by omega))
    have hbo := Lib.hid (red_both piv_top (u := (exN pl (8 * pl.length)).length) (by omega) (rowsR_lt s.size (exN pl (8 * pl.length)) (restOf s (exN pl (8 * pl.length)) x)))
    have he2 : rowsR s.size (exN pl (8 * pl.length)) (restOf s (exN pl (8 * pl.length)) x) = rowsOf s (exN pl (8 * pl.length)) x := rfl
    rw [he2] at hbo
    have HPM := Lib.hid hpm
    simp only [intsN_len] at HR ⊢
    clear he2 hok hb3 hps hpm hUl
    go_enter Tryz.func124, Tryz.ntmps124
    go_wp2_with (first | (go_at_call 51; refine (within_i _ _ _ _).mono ?_; rintro e w1 ⟨rfl, rfl⟩) | (go_at_call 144; refine HR.out.mono ?_; rintro e w1 ⟨rfl, rfl⟩) | (go_at_call 143; go_in))
    go_loopw [34, 8] (fun i y wr => ∃ k : Nat, k ≤ pl.length ∧ i = .int .i64 k ∧ Below w.heap.size w wr ∧ Hid (Int64L w.heap.size wr y (intsN (exN pl (8 * k))))) (fun i _ _ => pl.length - (intOf i).toNat)
    case atStart => exact ⟨0, Nat.zero_le _, rfl, Below.refl _ _, Lib.hid OwnL.of_nil⟩
    case round =>
      obtain ⟨k, hk, rfl, hb, HO⟩ := hrel
      by_cases hlt : k < pl.length
      · obtain ⟨p, hp⟩ : ∃ p, pl[k]? = some p := ⟨pl[k], List.getElem?_eq_getElem hlt⟩
        obtain ⟨g, rfl, hg, hc⟩ := hA.resolve_left (by intro h0; have := congrArg List.length h0; rw [intsN_len] at this; simp only [List.length_nil] at this; omega)
        have p0 := (hb.cell (p := ⟨g, k, none⟩) hg).trans (hc k _ (intsN_get hp))
        have hpm := HPM.out p (List.mem_of_getElem? hp)
        have HN := Lib.hid (fun b (hb : b < 8) => exN_next hb hp)
        generalize hwo : wr = wo at *; clear hwo
        have hbo2 := hb
        have HO2 : Hid (Int64L w.heap.size wo _ (intsN (exN pl (8 * k + 0)))) := HO
        clear hp hc HO
        go_wp2
        go_loopw [38, 8] (fun i y wr => ∃ b : Nat, b ≤ 8 ∧ i = .int .i64 b ∧ Below w.heap.size w wr ∧ Hid (Int64L w.heap.size wr y (intsN (exN pl (8 * k + b))))) (fun i _ _ => 8 - (intOf i).toNat)
        case atStart => exact ⟨0, Nat.zero_le _, rfl, hbo2, HO2⟩
        case round =>
          clear HO2 hbo2 hb
          obtain ⟨b, hb8, rfl, hb, HO⟩ := hrel
          have zr := hb.size
          obtain ⟨Ay, cy, rfl, _⟩ := ints_shape HO.out
          rw [exN_len] at HO ⊢
          by_cases hlb : b < 8
          · have HNb := Lib.hid (HN.out b hlb)
            have HC : Hid (((8 * p + b : Nat) : Int) = 8 * (p : Int) + (b : Int)) := Lib.hid (by omega)
            have hbl : (intsN (exN pl (8 * k + b))).length + 1 ≤ 16777216 := by rw [intsN_len, exN_len]; omega
            have hby : (8 : Nat) ≤ 4096 := by decide
            have hbase : w.heap.size ≤ (wr.alloc (.cells #[.int .i64 (8 * (p : Int) + (b : Int))] 2)).heap.size := by simp; omega
            go_wp2_with (at_builtin; refine wpList_app1 icell 1 icell_len _ rfl _ _ _ rfl w.heap.size 2 i0 (.int .i64 0) 8 Tryz.underlying23 hi hz0 hz1 hz2 rfl (by decide) _ (intsN (exN pl (8 * k + b))) rfl (HO.out.alloc _) _ 1 (8 * (p : Int) + (b : Int)) rfl ?_ (by simp [icell, Value.oneCell']) hbl hby hbase ?_; (· intro j u hu; cases j with | zero => (simp [icell] at hu; subst hu; simp) | succ j => simp [icell] at hu); intro v' w8 how8 hg8'; have hg8 : Below w.heap.size w w8 := own_grown_below (HO.out.alloc (.cells #[.int .i64 (8 * (p : Int) + (b : Int))] 2)) (Below.alloc hb zr _) hg8' (Nat.le_refl _) hbase)
            go_roundw
            case rel => exact ⟨b + 1, by omega, by go_num, hg8, by rw [HNb.out, intsN_app, HC.out]; exact Lib.hid how8⟩
            case measure => simp [intOf]; omega
          · obtain rfl : b = 8 := by omega
            go_wp2
            go_roundw
            case rel => exact ⟨k + 1, by omega, by go_num, hb, HO⟩
            case measure => simp [intOf]; omega
      · obtain rfl : k = pl.length := by omega
        obtain ⟨Ay, cy, rfl, _⟩ := ints_shape HO.out
        have HIA := Lib.hid (intsAt_own HO.out)
        have hU64 : (exN pl (8 * pl.length)).length ≤ 64 := by rw [exN_len]; omega
        have zr := hb.size
        clear HO HR HPM hA
        generalize exN pl (8 * pl.length) = U at *
        have HF2 := HF
        generalize hXi : redI top [] (rowsOf s U x) = X at *
        generalize hXs : redS (rowsOf s U x) = Y at *
        clear hXi hXs
        unfold filQ at HX
        rcases hbo.out with ⟨rfl, rfl, _⟩ | ⟨a, b, rfl, rfl, hra, hrb, _, hua, hub2, hsa, hsb, hab, hal⟩
        · go_wp2_with (fail)
          refine (HX.out _ _ HIA.out).mono ?_; rintro e w2 ⟨rfl, hb2⟩
          go_wp2
          rw [HF.out]
          exact bodyPost_ret (by simp [results, Tryz.results124, go_sem]; first | done | rfl | exact ⟨rfl, rfl⟩) rfl ⟨rfl, hb.trans (hb2.mono zr)⟩
        · simp only [totN_one, outI_one] at HX
          have hof := one_free hra hua
          by_cases hlu : b.length < U.length
          · have HFF := Lib.hid (sb_full (s := s) hlu)
            have hd : decide ((freeU top a U.length).length < 62 ∧ 2 ^ (freeU top a U.length).length ≤ 1) = false := decide_eq_false (by rw [hof]; omega)
            rw [hd] at HX
            generalize strN (fillOf (bts s) U top a (freeU top a U.length).reverse 0) = sr at *
            clear hra hrb hua hub2 hsa hsb hof hd hal hbo
            go_wp2_with (fail)
            refine (HX.out _ _ HIA.out).mono ?_; rintro e w2 ⟨v2, rfl, o2, hb2⟩
            obtain ⟨A2, c2, rfl, _⟩ := OwnL.shape o2
            go_wp2
            rw [HF.out, HFF.out]
            exact bodyPost_ret (by simp [results, Tryz.results124, go_sem]; first | done | rfl | exact ⟨rfl, rfl⟩) rfl ⟨rfl, hb.trans (hb2.mono zr)⟩
          · have hle := red_len_le hrb hub2
            have hau : a.length = U.length := by omega
            have HFF := Lib.hid (sb_one (s := s) hlu)
            have hd : decide ((freeU top a U.length).length < 62 ∧ 2 ^ (freeU top a U.length).length ≤ 1) = true := decide_eq_true (hof.2 hau)
            rw [hd] at HX
            have hos := only_same (l := bts s) (by omega) hra hrb hua hub2 (fun x => (hsa x).trans (hsb x).symm) hau
            simp only [hos] at HX
            generalize strN (fillN (bts s) U (comp low b 0).testBit) = sr at *
            clear hra hrb hua hub2 hsa hsb hof hd hal hbo hos
            go_wp2_with (fail)
            refine (HX.out _ _ HIA.out).mono ?_; rintro e w2 ⟨v2, rfl, o2, hb2⟩
            obtain ⟨A2, c2, rfl, hA2⟩ := OwnL.shape o2
            obtain ⟨g2, rfl, _, _⟩ := hA2.resolve_left (by simp)
            have p0 := StringL.at_ (k := 0) o2 rfl rfl
            clear o2 HX
            go_wp2
            rw [HF.out, HFF.out]
            exact bodyPost_ret (by simp [results, Tryz.results124, go_sem]; first | done | rfl | exact ⟨rfl, rfl⟩) rfl ⟨rfl, hb.trans (hb2.mono zr)⟩
end Go.Proofs.YtfcdienphillnaaGreat
namespace Go.Proofs.YtfcdienphillnaaGreat
set_option linter.unusedVariables false
set_option linter.unusedSimpArgs false
open Go.RowKit
theorem low_ltF {m : Nat} (h0 : m ≠ 0) (h : m < 18446744073709551616) : low m < 64 := bit_lt (show m < 2 ^ 64 from h) (low_on m h0)
set_option maxHeartbeats 1000000 in
theorem first_s (r : Rw) (w : World) (h0 : r.m ≠ 0) (h : r.m < 18446744073709551616) :
    Calls Tryz.prog 169 #[.agg #[.int .u64 r.m, .int .u64 (bi r.r)]] w fun e w' => e = .returned (.int .i64 (low r.m)) ∧ Below w.heap.size w w' := by
  have hl := low_ltF h0 h
  have HON := Lib.hid (low_on r.m h0)
  have HMN := Lib.hid (low_min r.m)
  have hb0 : Below w.heap.size w (w.alloc (.cells #[.int .u64 r.m, .int .u64 (bi r.r)] 210)) := Below.alloc (Below.refl _ _) (Nat.le_refl _) _
  have x0 : (w.alloc (.cells #[.int .u64 r.m, .int .u64 (bi r.r)] 210)).cell? ⟨w.heap.size, 0, none⟩ = some (.int .u64 r.m) := by simp [go_sem]
  go_enter Tryz.func169, Tryz.ntmps169
  go_wp2
  generalize hwo : w.alloc (.cells #[.int .u64 r.m, .int .u64 (bi r.r)] 210) = wo at *; clear hwo
  go_loop [3] (fun i => ∃ k : Nat, k ≤ low r.m ∧ i = .int .i64 k) (fun i => low r.m - (intOf i).toNat)
  case atStart => exact ⟨0, by omega, rfl⟩
  case round =>
    obtain ⟨k, hk, rfl⟩ := hrel
    have hbv := u64_bit r.m k h
    have hbv2 : bits .and .u64 ((r.m : Int) / 2 ^ min k 64) 1 = bi (r.m.testBit k) := by rw [Nat.min_eq_left (by omega)]; exact hbv
    by_cases hlt : k < low r.m
    · rw [HMN.out k hlt, bi_f] at hbv hbv2
      go_wp2
      go_round
      case rel => exact ⟨k + 1, by omega, by go_num⟩
      case measure => simp [intOf]; omega
    · obtain rfl : k = low r.m := by omega
      rw [HON.out, bi_t] at hbv hbv2
      go_wp2
      go_ret
      exact ⟨rfl, hb0⟩
theorem dotN_next {m n : Nat} {x : Nat → Bool} : dotN (n + 1) m x = (dotN n m x ^^ (m.testBit n && x n)) := rfl
/-- one bit of a mask and of the chosen values -/
theorem u64_two (m v k : Nat) (hm : m < 18446744073709551616) (hv : v < 18446744073709551616) : bits .and .u64 (bits .and .u64 ((m : Int) / 2 ^ k) ((v : Int) / 2 ^ k)) 1 = bi (m.testBit k && v.testBit k) := by
  have e1 : ((m : Int) / 2 ^ k) = ((m / 2 ^ k : Nat) : Int) := by push_cast; rfl
  have e2 : ((v : Int) / 2 ^ k) = ((v / 2 ^ k : Nat) : Int) := by push_cast; rfl
  have h1 : m / 2 ^ k < 18446744073709551616 := Nat.lt_of_le_of_lt (Nat.div_le_self _ _) hm
  have h2 : v / 2 ^ k < 18446744073709551616 := Nat.lt_of_le_of_lt (Nat.div_le_self _ _) hv
  have h3 : m / 2 ^ k &&& v / 2 ^ k < 18446744073709551616 := Nat.lt_of_le_of_lt Nat.and_le_left h1
  rw [e1, e2, u64_and_nat _ _ h1 h2, show (1 : Int) = ((1 : Nat) : Int) from rfl, u64_and_nat _ 1 h3 (by omega), Nat.and_one_is_mod]
  have := mod2_bi (m / 2 ^ k &&& v / 2 ^ k) 0
  simp only [Nat.pow_zero, Nat.div_one] at this
  rw [this, Nat.testBit_and, Nat.testBit_div_two_pow, Nat.testBit_div_two_pow]; simp
theorem bi_shl (b : Bool) (p : Nat) (hp : p < 64) : IntKind.u64.wrap (bi b * 2 ^ p) = ((if b then 2 ^ p else 0 : Nat) : Int) := by
  cases b
  · simp [bi_f, IntKind.wrap_u64]
  · rw [bi_t, Int.one_mul, if_pos rfl]; exact wrap_pow p hp
theorem compK_or {rows : List Rw} {V0 k : Nat} {e : Rw} (h : rows[k]? = some e) {d : Bool} (hd : (e.r ^^ dot e.m V0.testBit) = d) : compK low rows V0 (k + 1) = compK low rows V0 k ||| (if d then 2 ^ low e.m else 0) := by
  rw [compK_next h]
  have : (dot e.m V0.testBit != e.r) = d := by rw [← hd]; cases dot e.m V0.testBit <;> cases e.r <;> rfl
  rw [this]; cases d <;> simp
set_option maxRecDepth 20000 in
set_option maxHeartbeats 4000000 in
theorem fill_s (s : ByteArray) (u : List Nat) (v rv : Value) (rows : List Rw) (V0 : Nat) (w : World) (h : IntsAt w v (intsN u)) (hr : RowsAt .u64 w rv rows) (hu : ∀ b ∈ u, b < 8 * s.size) (hs : s.size ≤ 64) (hm : u.length ≤ 64)
    (hrm : ∀ e ∈ rows, e.m ≠ 0 ∧ e.m < 2 ^ u.length) (hV : V0 < 18446744073709551616) (hrl : rows.length ≤ 1048576) :
    Calls Tryz.prog 141 #[.string s, v, rv, .int .u64 V0] w fun e w' => e = .returned (.string (strN (fillN (bts s) u (comp low rows V0).testBit))) ∧ Below w.heap.size w w' := by
  have hrm64 : ∀ e ∈ rows, e.m ≠ 0 ∧ e.m < 18446744073709551616 ∧ dotN u.length e.m V0.testBit = dot e.m V0.testBit := fun e he => by
    obtain ⟨h1, h2⟩ := hrm e he
    exact ⟨h1, Nat.lt_of_lt_of_le h2 (show 2 ^ u.length ≤ 2 ^ 64 from Nat.pow_le_pow_right (by omega) hm), (dotN_le hm h2).symm⟩
  have HRM := Lib.hid hrm64
  have HCK := Lib.hid (fun k => compK_lt (p := low) (rows := rows) (V0 := V0) (fun e he => low_ltF (hrm64 e he).1 (hrm64 e he).2.1) hV k)
  have HCL := Lib.hid (fun w' (hb : Below w.heap.size w w') => clear_s s u v w' (h.below hb) hu (by omega) (by omega))
  have HU := Lib.hid hu
  have bl := bts_len s
  obtain ⟨A, cA, rfl, hA⟩ := h
  obtain ⟨Ar, cr, rfl, hR⟩ := hr
  simp only [intsN_len] at HCL ⊢
  unfold clrQ2 at HCL
  clear hrm64 hrm hu
  have HE : Hid (fillN (bts s) u (comp low rows V0).testBit = fillK (clrN (bts s) u) u (comp low rows V0).testBit u.length) := Lib.hid rfl
  go_enter Tryz.func141, Tryz.ntmps141
  go_wp2
  go_loopw [10, 9] (fun i x wr => ∃ k : Nat, k ≤ rows.length ∧ i = .int .i64 k ∧ x = .int .u64 (compK low rows V0 k : Nat) ∧ Below w.heap.size w wr) (fun i _ _ => rows.length - (intOf i).toNat)
  case atStart => exact ⟨0, by omega, rfl, by rw [compK_zero], Below.refl _ _⟩
  case round =>
    obtain ⟨k, hk, rfl, rfl, hb⟩ := hrel
    have zr := hb.size
    by_cases hlt : k < rows.length
    · obtain ⟨e, he⟩ : ∃ e, rows[k]? = some e := ⟨rows[k], List.getElem?_eq_getElem hlt⟩
      obtain ⟨g, rfl, hg, hcc⟩ := hR.resolve_left (by intro h0; rw [h0] at hlt; simp at hlt)
      have k0 := (hb.cell (p := ⟨g, _, none⟩) hg).trans (hcc k e he).1
      have k1 := (hb.cell (p := ⟨g, _, none⟩) hg).trans (hcc k e he).2
      obtain ⟨hm0, hm64, hdn⟩ := HRM.out e (List.mem_of_getElem? he)
      have HFI := Lib.hid (fun W => first_s e W hm0 hm64)
      have hlow := low_ltF hm0 hm64
      have hck := HCK.out k
      have HN := Lib.hid (compK_or he (d := e.r ^^ dot e.m V0.testBit) rfl)
      have hck2 := HCK.out (k + 1)
      generalize hV2 : compK low rows V0 (k + 1) = V2 at *
      have HV2 := Lib.hid hV2
      clear hV2
      generalize compK low rows V0 k = V1 at *
      clear he hcc
      go_wp2
      go_loop [12, 11] (fun i x => ∃ j : Nat, j ≤ u.length ∧ i = .int .i64 j ∧ x = .int .u64 (bi (e.r ^^ dotN j e.m V0.testBit))) (fun i _ => u.length - (intOf i).toNat)
      case atStart => exact ⟨0, by omega, rfl, by simp [dotN]⟩
      case round =>
        obtain ⟨j, hj, rfl, rfl⟩ := hrel
        by_cases hltj : j < u.length
        · have h2 := u64_two e.m V0 j hm64 hV
          have h22 : bits .and .u64 (bits .and .u64 ((e.m : Int) / 2 ^ min j 64) ((V0 : Int) / 2 ^ min j 64)) 1 = bi (e.m.testBit j && V0.testBit j) := by rw [Nat.min_eq_left (by omega)]; exact h2
          have hx := bi_xor_u (e.r ^^ dotN j e.m V0.testBit) (e.m.testBit j && V0.testBit j)
          rw [Bool.xor_assoc] at hx
          have HX : Hid (dotN (j + 1) e.m V0.testBit = _) := Lib.hid dotN_next
          generalize dotN j e.m V0.testBit = d at *
          generalize (e.m.testBit j && V0.testBit j) = d2 at *
          go_wp2
          go_round
          case rel => exact ⟨j + 1, by omega, by go_num, by rw [HX.out]⟩
          case measure => simp [intOf]; omega
        · obtain rfl : j = u.length := by omega
          rw [hdn]
          have hor := u64_or_nat V1 (if (e.r ^^ dot e.m V0.testBit) then 2 ^ low e.m else 0) hck (by
            split
            · exact Nat.lt_of_lt_of_le (Nat.pow_lt_pow_right (by omega) hlow) (by decide)
            · decide)
          rw [← HN.out, ← bi_shl _ _ hlow] at hor
          have hor2 : bits .or .u64 (V1 : Int) (IntKind.u64.wrap (bi (e.r ^^ dot e.m V0.testBit) * 2 ^ min (low e.m) 64)) = (V2 : Int) := by rw [Nat.min_eq_left (by omega)]; exact hor
          generalize dot e.m V0.testBit = d at *
          generalize (e.r ^^ d) = d3 at *
          go_wp2_with (fail)
          refine (HFI.out _).mono ?_; rintro e4 w4 ⟨rfl, hb4⟩
          have hb04 := hb.trans (hb4.mono zr)
          clear HFI
          go_wp2
          go_roundw
          case rel => exact ⟨k + 1, by omega, by go_num, by rw [HV2.out], hb04⟩
          case measure => simp [intOf]; omega
    · obtain rfl : k = rows.length := by omega
      rw [compK_end]
      have hck := HCK.out rows.length
      rw [compK_end] at hck
      generalize hVV : comp low rows V0 = V at *
      have HVV := Lib.hid hVV
      clear hVV
      generalize hwo : wr = wo at *; clear hwo
      go_wp2_with (fail)
      refine (HCL.out _ hb).mono ?_; rintro e4 w4 ⟨c4, rfl, hB4, z4, hb4⟩
      have hb04 := hb.trans (hb4.mono zr)
      have HB4 : Hid (Buf w4 wo.heap.size (fillK (clrN (bts s) u) u V.testBit 0)) := Lib.hid hB4
      clear hB4 HCL
      go_wp2
      go_loopw [14] (fun i wr => ∃ j : Nat, j ≤ u.length ∧ i = .int .i64 j ∧ Below w.heap.size w wr ∧ wo.heap.size < wr.heap.size ∧ Hid (Buf wr wo.heap.size (fillK (clrN (bts s) u) u V.testBit j))) (fun i _ => u.length - (intOf i).toNat)
      case atStart => exact ⟨0, by omega, rfl, hb04, z4, HB4⟩
      case round =>
        clear HB4 hb04 hb4 z4 hb
        obtain ⟨j, hj, rfl, hb, zz, HB⟩ := hrel
        by_cases hltj : j < u.length
        · obtain ⟨b, hbj⟩ : ∃ b, u[j]? = some b := ⟨u[j], List.getElem?_eq_getElem hltj⟩
          obtain ⟨gu, rfl, hgu, hcu⟩ := hA.resolve_left (by intro h0; have := congrArg List.length h0; rw [intsN_len] at this; simp only [List.length_nil] at this; omega)
          have p0 := (hb.cell (p := ⟨gu, j, none⟩) hgu).trans (hcu j _ (intsN_get hbj))
          have hbv := u64_bit V j hck
          have hbv2 : bits .and .u64 ((V : Int) / 2 ^ min j 64) 1 = bi (V.testBit j) := by rw [Nat.min_eq_left (by omega)]; exact hbv
          have hbs := HU.out b (List.mem_of_getElem? hbj)
          cases ht : V.testBit j
          · rw [ht, bi_f] at hbv hbv2
            have HN := Lib.hid (fillK_no (l := clrN (bts s) u) (unk := u) (x := V.testBit) ht)
            clear hbj ht hcu
            go_wp2
            go_roundw
            case rel => exact ⟨j + 1, by omega, by go_num, hb, zz, by rw [HN.out]; exact HB⟩
            case measure => simp [intOf]; omega
          · rw [ht, bi_t] at hbv hbv2
            have HN := Lib.hid (fillK_yes (l := clrN (bts s) u) (unk := u) (x := V.testBit) hbj ht)
            have hfl := flip_s wo.heap.size c4 b _ wr zz HB.out (by rw [fillK_len, clrN_len, bl]; exact hbs) (by rw [fillK_len, clrN_len, bl]; omega) (fillK_lt (clrN_lt bts_lt) j)
            rw [fillK_len, clrN_len, bl, ← HN.out] at hfl
            have HFL := Lib.hid hfl
            clear hbj ht hcu hfl
            go_wp2_with (fail)
            refine HFL.out.mono ?_; rintro e5 w5 ⟨rfl, hB5, hc5, s5⟩
            have hb5 : Below w.heap.size w w5 := Chg.below hb hc5 (by omega) (Nat.le_refl _)
            have z5 := hc5.size
            have HB5 := Lib.hid hB5
            clear hB5 hc5 s5 HFL
            go_wp2
            go_roundw
            case rel => exact ⟨j + 1, by omega, by go_num, hb5, by omega, HB5⟩
            case measure => simp [intOf]; omega
        · obtain rfl : j = u.length := by omega
          have hst := HB.out.str (n := s.size) (c := c4) (by rw [fillK_len, clrN_len]; exact bl)
          go_wp2
          go_ret
          exact ⟨by rw [HVV.out, HE.out]; rfl, hb⟩
end Go.Proofs.YtfcdienphillnaaGreat
namespace Go.Proofs.YtfcdienphillnaaGreat
set_option linter.unusedVariables false
set_option linter.unusedSimpArgs false
open Go.RowKit
theorem srt_ge {pl : List Nat} (h : pl.Pairwise (· < ·)) : ∀ i (hi : i < pl.length), i ≤ pl[i] := by
  intro i
  induction i with
  | zero => intro hi; omega
  | succ i ih =>
    intro hi
    have h1 := ih (by omega)
    have h2 := List.pairwise_iff_getElem.1 h i (i + 1) (by omega) hi (by omega)
    omega
theorem srt_len {pl : List Nat} {m : Nat} (h : pl.Pairwise (· < ·)) (hm : ∀ p ∈ pl, p < m) : pl.length ≤ m := by
  rcases Nat.eq_zero_or_pos pl.length with h0 | h0
  · omega
  · have h1 := srt_ge h (pl.length - 1) (by omega)
    have h2 := hm pl[pl.length - 1] (List.getElem_mem _)
    omega
theorem sb_unk {s : ByteArray} {pl : List Nat} {c : Int} (h1 : ∀ p ∈ pl, p < s.size) (h2 : pl.Pairwise (· < ·)) (h3 : risesB 0 (s.size - 1) (intsN pl) = true) : unkOk s (intsN (exN pl (8 * pl.length))) c = sbOk s (intsN pl) c := by
  unfold unkOk sbOk
  rw [ex_rises h1 h2, h3, intsN_len, intsN_len, exN_len, Bool.and_true, Bool.true_and]
  congr 1
  exact decide_eq_decide.2 (by omega)
set_option maxRecDepth 20000 in
set_option maxHeartbeats 4000000 in
theorem sol_s (s : ByteArray) (l : List Int) (v : Value) (c : Int) (w : World) (h : IntsAt w v l) (hm : l.length ≤ 1048576) (hs : s.size ≤ 1048576) (hc : -9223372036854775808 ≤ c ∧ c ≤ 9223372036854775807) :
    Calls Tryz.prog 118 #[.string s, v, .int .i64 c] w fun e w' => e = .returned (sbV s l c) ∧ Below w.heap.size w w' := by
  obtain ⟨i0, hi, hz0, hz1, hz2⟩ := info_parts icell_info
  have HR := Lib.hid (rises_s l v 0 (s.size - 1) w h (by omega))
  have hI0 := h
  obtain ⟨A, cA, rfl, hA⟩ := h
  cases hb1 : inB s.size 1 64
  · have HF := Lib.hid (sbV_no (s := s) (l := l) (c := c) (by unfold sbOk; rw [hb1]; rfl))
    go_enter Tryz.func118, Tryz.ntmps118
    go_wp2_with (first | (go_at_call 43; refine (in_s _ _ _ _).mono ?_; rintro e w1 ⟨rfl, rfl⟩) | (go_at_call 139; refine HR.out.mono ?_; rintro e w1 ⟨rfl, hb1⟩) | (go_at_call 138; go_in))
    rw [HF.out]
    exact bodyPost_ret (by simp [results, Tryz.results118, go_sem]; first | done | rfl | exact ⟨rfl, rfl⟩) rfl ⟨rfl, Below.refl _ _⟩
  cases hb3 : risesB 0 (s.size - 1) l
  · have HF := Lib.hid (sbV_no (s := s) (l := l) (c := c) (by unfold sbOk; rw [hb3]; simp))
    rw [hb3] at HR
    go_enter Tryz.func118, Tryz.ntmps118
    go_wp2_with (first | (go_at_call 43; refine (in_s _ _ _ _).mono ?_; rintro e w1 ⟨rfl, rfl⟩) | (go_at_call 139; refine HR.out.mono ?_; rintro e w1 ⟨rfl, hb1⟩) | (go_at_call 138; go_in))
    rw [HF.out]
    exact bodyPost_ret (by simp [results, Tryz.results118, go_sem]; first | done | rfl | exact ⟨rfl, rfl⟩) rfl ⟨rfl, by first | exact hb1 | assumption⟩
  rw [hb3] at HR
  obtain ⟨pl, rfl, hpm, hps⟩ := places_nat hb3
  have h1 := inB_yes hb1
  have hplen := srt_len hps hpm
  have HUK := Lib.hid (sb_unk (c := c) hpm hps hb3)
  have hUl := exN_len pl (8 * pl.length)
  have HF1 := Lib.hid (fun h => sbV_no (s := s) (l := intsN pl) (c := c) h)
  have HF2 := Lib.hid (fun (k : Nat) (h : sbOk s (intsN pl) (k : Int) = true) => sbV_yes h)
  have HUM := Lib.hid (fun b (hb : b ∈ exN pl (8 * pl.length)) => exN_mem hpm hb)
  have HPM := Lib.hid hpm
  simp only [intsN_len] at HR ⊢
  clear hb3 hps hpm hUl
  go_enter Tryz.func118, Tryz.ntmps118
  go_wp2_with (fail)
  have q1 : inB s.size 1 64 = true := hb1
  go_wp2_with (first | (go_at_call 43; refine (in_s _ _ _ _).mono ?_; rintro e w1 ⟨rfl, rfl⟩) | (go_at_call 139; refine HR.out.mono ?_; rintro e w1 ⟨rfl, hb1⟩) | (go_at_call 138; go_in))
  have hb01 : Below w.heap.size w w1 := by first | exact hb1 | assumption
  have z1 := hb01.size
  have hbs : Below w.heap.size w (w1.alloc (.cells #[] 2)) := Below.alloc hb01 z1 _
  have HO0 : Hid (Int64L w.heap.size (w1.alloc (.cells #[] 2)) (.slice (some ⟨w1.heap.size, 0, none⟩) 0 0) (intsN (exN pl (8 * 0)))) := Lib.hid (OwnL.of_empty w1 z1)
  go_loopw [9, 8] (fun i y wr => ∃ k : Nat, k ≤ pl.length ∧ i = .int .i64 k ∧ Below w.heap.size w wr ∧ Hid (Int64L w.heap.size wr y (intsN (exN pl (8 * k))))) (fun i _ _ => pl.length - (intOf i).toNat)
  case atStart => exact ⟨0, Nat.zero_le _, rfl, hbs, HO0⟩
  case round =>
    clear HO0 hbs hb01 z1
    obtain ⟨k, hk, rfl, hb, HO⟩ := hrel
    by_cases hlt : k < pl.length
    · obtain ⟨p, hp⟩ : ∃ p, pl[k]? = some p := ⟨pl[k], List.getElem?_eq_getElem hlt⟩
      obtain ⟨g, rfl, hg, hc⟩ := hA.resolve_left (by intro h0; have := congrArg List.length h0; rw [intsN_len] at this; simp only [List.length_nil] at this; omega)
      have hpc := hc k _ (intsN_get hp)
      have hpm := HPM.out p (List.mem_of_getElem? hp)
      have HN := Lib.hid (fun b (hb : b < 8) => exN_next hb hp)
      generalize hwo : wr = wo at *; clear hwo
      have hbo2 := hb
      have HO2 : Hid (Int64L w.heap.size wo _ (intsN (exN pl (8 * k + 0)))) := HO
      clear hp hc HO
      go_wp2
      go_loopw [10, 8] (fun i y wr => ∃ b : Nat, b ≤ 8 ∧ i = .int .i64 b ∧ Below w.heap.size w wr ∧ Hid (Int64L w.heap.size wr y (intsN (exN pl (8 * k + b))))) (fun i _ _ => 8 - (intOf i).toNat)
      case atStart => exact ⟨0, Nat.zero_le _, rfl, hbo2, HO2⟩
      case round =>
        clear HO2 hbo2 hb
        obtain ⟨b, hb8, rfl, hb, HO⟩ := hrel
        have zr := hb.size
        obtain ⟨Ay, cy, rfl, _⟩ := ints_shape HO.out
        rw [exN_len] at HO ⊢
        by_cases hlb : b < 8
        · have p0 := (hb.cell (p := ⟨g, k, none⟩) hg).trans hpc
          have HNb := Lib.hid (HN.out b hlb)
          have HC : Hid (((8 * p + b : Nat) : Int) = 8 * (p : Int) + (b : Int)) := Lib.hid (by omega)
          have hbl : (intsN (exN pl (8 * k + b))).length + 1 ≤ 16777216 := by rw [intsN_len, exN_len]; omega
          have hby : (8 : Nat) ≤ 4096 := by decide
          have hbase : w.heap.size ≤ (wr.alloc (.cells #[.int .i64 (8 * (p : Int) + (b : Int))] 2)).heap.size := by simp; omega
          go_wp2_with (at_builtin; refine wpList_app1 icell 1 icell_len _ rfl _ _ _ rfl w.heap.size 2 i0 (.int .i64 0) 8 Tryz.underlying23 hi hz0 hz1 hz2 rfl (by decide) _ (intsN (exN pl (8 * k + b))) rfl (HO.out.alloc _) _ 1 (8 * (p : Int) + (b : Int)) rfl ?_ (by simp [icell, Value.oneCell']) hbl hby hbase ?_; (· intro j u hu; cases j with | zero => (simp [icell] at hu; subst hu; simp) | succ j => simp [icell] at hu); intro v' w8 how8 hg8'; have hg8 : Below w.heap.size w w8 := own_grown_below (HO.out.alloc (.cells #[.int .i64 (8 * (p : Int) + (b : Int))] 2)) (Below.alloc hb zr _) hg8' (Nat.le_refl _) hbase)
          go_roundw
          case rel => exact ⟨b + 1, by omega, by go_num, hg8, by rw [HNb.out, intsN_app, HC.out]; exact Lib.hid how8⟩
          case measure => simp [intOf]; omega
        · obtain rfl : b = 8 := by omega
          go_wp2
          go_roundw
          case rel => exact ⟨k + 1, by omega, by go_num, hb, HO⟩
          case measure => simp [intOf]; omega
    · obtain rfl : k = pl.length := by omega
      obtain ⟨Ay, cy, rfl, _⟩ := ints_shape HO.out
      have HIA := Lib.hid (intsAt_own HO.out)
      have hU512 : (exN pl (8 * pl.length)).length ≤ 512 := by rw [exN_len]; omega
      have zr := hb.size
      clear HO HR HPM hA
      cases hok : sbOk s (intsN pl) c
      · have HF := Lib.hid (HF1.out hok)
        have HS := Lib.hid (solved_no s _ _ c wr HIA.out (by rw [intsN_len]; omega) hs (by rw [HUK.out]; exact hok))
        clear HF1 HF2 HUK HUM hok
        go_wp2_with (fail)
        refine HS.out.mono ?_; rintro e w2 ⟨rfl, hb2⟩
        go_wp2
        rw [HF.out]
        exact bodyPost_ret (by simp [results, Tryz.results118, go_sem]; first | done | rfl | exact ⟨rfl, rfl⟩) rfl ⟨rfl, hb.trans (hb2.mono zr)⟩
      · have hok2 := hok
        unfold sbOk at hok2
        rw [Bool.and_eq_true, Bool.and_eq_true, Bool.and_eq_true, decide_eq_true_eq, intsN_len] at hok2
        obtain ⟨⟨_, hb2⟩, _, h8⟩ := hok2
        have h2 := inB_yes hb2
        have hU64 : (exN pl (8 * pl.length)).length ≤ 64 := by rw [exN_len]; omega
        obtain ⟨x, rfl⟩ : ∃ x : Nat, c = x := ⟨c.toNat, by omega⟩
        have HF := Lib.hid (HF2.out x hok)
        have HS := Lib.hid (solved_s s (exN pl (8 * pl.length)) _ x wr HIA.out (by rw [HUK.out]; exact hok) HUM.out (by omega) (by omega) (by omega))
        unfold solQ at HS
        have hrl : ∀ e ∈ rowsOf s (exN pl (8 * pl.length)) x, e.m < 2 ^ (exN pl (8 * pl.length)).length := rowsR_lt s.size (exN pl (8 * pl.length)) (restOf s (exN pl (8 * pl.length)) x)
        generalize hX : redS (rowsOf s (exN pl (8 * pl.length)) x) = X at *
        have hrb := Lib.hid (redS_ok hU64 hrl hX)
        clear hrl
        have hb16 : (rowsOf s (exN pl (8 * pl.length)) x).length = 16 := rowsOf_len _ _ _
        generalize hU : exN pl (8 * pl.length) = U at *
        clear HF1 HF2 HUK hok hU hX hb2
        cases X with
        | none =>
          have hcd : cdO none = 3 := rfl
          go_wp2_with (fail)
          refine HS.out.mono ?_; rintro e w2 ⟨v2, rfl, o2, hb2⟩
          obtain ⟨A2, c2, rfl, _⟩ := OwnL.shape o2
          go_wp2
          rw [HF.out]
          exact bodyPost_ret (by simp [results, Tryz.results118, go_sem]; first | done | rfl | exact ⟨rfl, rfl⟩) rfl ⟨rfl, hb.trans (hb2.mono zr)⟩
        | some b =>
          obtain ⟨k1, _, k3, _, k5⟩ := hrb.out
          have hbl : b.length ≤ 64 := by
            have : b.length ≤ 16 := by rw [← hb16]; exact k5
            omega
          have HFI := Lib.hid (fun W rv (h : IntsAt W (.slice Ay U.length cy) (intsN U)) (hr : RowsAt .u64 W rv b) => fill_s s U _ rv b 0 W h hr HUM.out (by omega) (by omega) (fun e he => ⟨fun e0 => (by have := k1.on e he; rw [e0] at this; simp at this), k3 e he⟩) (by decide) (by omega))
          have HS' : Hid (Calls Tryz.prog 140 #[.string s, .slice Ay U.length cy, .int .i64 x] wr fun e w' => ∃ v', e = .returned (.tuple #[v', .int .i64 0]) ∧ RowL .u64 210 wr.heap.size w' v' b ∧ Below wr.heap.size wr w') := HS
          clear k1 k3 k5 hrb HS hb16
          by_cases hlu : b.length < U.length
          · have HFF := Lib.hid (sb_full (s := s) hlu)
            go_wp2_with (fail)
            refine HS'.out.mono ?_; rintro e w2 ⟨v2, rfl, o2, hb2⟩
            obtain ⟨A2, c2, rfl, _⟩ := OwnL.shape o2
            go_wp2
            rw [HF.out, HFF.out]
            exact bodyPost_ret (by simp [results, Tryz.results118, go_sem]; first | done | rfl | exact ⟨rfl, rfl⟩) rfl ⟨rfl, hb.trans (hb2.mono zr)⟩
          · have HFF := Lib.hid (sb_one (s := s) hlu)
            generalize strN (fillN (bts s) U (comp low b 0).testBit) = sr at *
            go_wp2_with (fail)
            refine HS'.out.mono ?_; rintro e w2 ⟨v2, rfl, o2, hb2⟩
            have HRA := Lib.hid (RowsAt.own o2)
            obtain ⟨A2, c2, rfl, _⟩ := OwnL.shape o2
            have HIB := Lib.hid (HIA.out.below hb2)
            have z2 := hb2.size
            clear o2
            go_wp2_with (fail)
            refine (HFI.out _ _ HIB.out HRA.out).mono ?_; rintro e w3 ⟨rfl, hb3⟩
            go_wp2
            rw [HF.out, HFF.out]
            exact bodyPost_ret (by simp [results, Tryz.results118, go_sem]; first | done | rfl | exact ⟨rfl, rfl⟩) rfl ⟨rfl, hb.trans ((hb2.trans (hb3.mono z2)).mono zr)⟩
end Go.Proofs.YtfcdienphillnaaGreat
