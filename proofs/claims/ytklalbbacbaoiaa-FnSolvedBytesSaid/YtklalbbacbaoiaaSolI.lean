/- SolveBytes, impl: the walk. -/
import Derived.Test.YtklalbbacbaoiaaSolP
import Derived.Test.YtklalbbacbaoiaaFirI
namespace Go.Proofs.Ytklalbbacbaoiaa
set_option linter.unusedVariables false
open Go.RowKit
theorem sb_full {s : ByteArray} {U : List Nat} {b : List Rw} (h : b.length < U.length) : sbR s U (some b) = (.empty, 11) := by unfold sbR; exact if_pos h
theorem sb_one {s : ByteArray} {U : List Nat} {b : List Rw} (h : ¬ b.length < U.length) : sbR s U (some b) = (strN (fillN (bts s) U (comp low b 0).testBit), 0) := by unfold sbR; exact if_neg h
theorem one_free {a : List Rw} {u : Nat} (ha : Red top a) (hu : ∀ e ∈ a, e.m < 2 ^ u) : ((freeU top a u).length < 62 ∧ 2 ^ (freeU top a u).length ≤ 1) ↔ a.length = u := by
  have h := free_len ha (red_plt ha hu)
  constructor
  · rintro ⟨_, h2⟩
    have : (freeU top a u).length = 0 := by
      rcases Nat.eq_zero_or_pos (freeU top a u).length with h0 | h0
      · exact h0
      · have := Nat.pow_le_pow_right (n := 2) (by omega) h0; omega
    omega
  · intro e
    have : (freeU top a u).length = 0 := by omega
    rw [this]; exact ⟨by decide, by decide⟩
set_option maxRecDepth 20000 in
set_option maxHeartbeats 4000000 in
theorem sol_i (s : ByteArray) (l : List Int) (v : Value) (c : Int) (w : World) (h : IntsAt w v l) (hm : l.length ≤ 1048576) (hs : s.size ≤ 1048576) :
    Calls Try.prog 44 #[.string s, v, .int .i64 c] w fun e w' => e = .returned (sbV s l c) ∧ Below w.heap.size w w' := by
  obtain ⟨i0, hi, hz0, hz1, hz2⟩ := info_parts icell_info
  have HR := Lib.hid (rises_i l v 0 (s.size - 1) w h (by omega))
  cases hok : sbOk s l c
  · have HF := Lib.hid (sbV_no hok)
    have hb4 : Hid (∀ b1 b2 b3, inB s.size 1 64 = b1 → inB c 0 65535 = b2 → risesB 0 (s.size - 1) l = b3 → ((b1 && b2) && (b3 && decide (l.length ≤ 8))) = false) := Lib.hid (by rintro _ _ _ rfl rfl rfl; exact hok)
    obtain ⟨A, cA, rfl, _⟩ := h
    have H4 := hb4.out _ _ _ rfl rfl rfl
    generalize risesB 0 (s.size - 1) l = b3 at *
    generalize hb1 : inB s.size 1 64 = b1 at *
    generalize hb2 : inB c 0 65535 = b2 at *
    clear hok hb4
    by_cases h8 : l.length ≤ 8
    · rw [decide_eq_true h8] at H4
      cases b1 <;> cases b2 <;> cases b3 <;> first | (cases H4; done) | skip
      all_goals
        clear H4
        go_enter Try.func44, Try.ntmps44
        go_wp2_with (first | (go_at_call 54; refine (within_i _ _ _ _).mono ?_; rintro e w1 ⟨rfl, rfl⟩) | (go_at_call 55; refine HR.out.mono ?_; rintro e w1 ⟨rfl, rfl⟩) | (go_at_call 61; go_in))
        rw [HF.out]
        exact bodyPost_ret (by simp [results, Try.results44, go_sem]; first | done | rfl | exact ⟨rfl, rfl⟩) rfl ⟨rfl, Below.refl _ _⟩
    · cases b1 <;> cases b2 <;> cases b3
      all_goals
        clear H4
        go_enter Try.func44, Try.ntmps44
        go_wp2_with (first | (go_at_call 54; refine (within_i _ _ _ _).mono ?_; rintro e w1 ⟨rfl, rfl⟩) | (go_at_call 55; refine HR.out.mono ?_; rintro e w1 ⟨rfl, rfl⟩) | (go_at_call 61; go_in))
        rw [HF.out]
        exact bodyPost_ret (by simp [results, Try.results44, go_sem]; first | done | rfl | exact ⟨rfl, rfl⟩) rfl ⟨rfl, Below.refl _ _⟩
  · have hok2 := hok
    unfold sbOk at hok2
    rw [Bool.and_eq_true, Bool.and_eq_true, Bool.and_eq_true, decide_eq_true_eq] at hok2
    obtain ⟨⟨hb1, hb2⟩, hb3, h8⟩ := hok2
    obtain ⟨pl, rfl, hpm, hps⟩ := places_nat hb3
    have h1 := inB_yes hb1
    have h2 := inB_yes hb2
    obtain ⟨x, rfl⟩ : ∃ x : Nat, c = x := ⟨c.toNat, by omega⟩
    have HF := Lib.hid (sbV_yes hok)
    rw [intsN_len] at h8 hm
    rw [hb3] at HR
    obtain ⟨A, cA, rfl, hA⟩ := h
    have hUl := exN_len pl (8 * pl.length)
    have HX := Lib.hid (fun v W (h : IntsAt W v (intsN (exN pl (8 * pl.length)))) => fills_i s (exN pl (8 * pl.length)) v x 1 W h (fun b hb => exN_mem hpm hb) ((exN_srt hps).imp fun h => Nat.ne_of_lt h) (by omega) (by omega) (by omega) (by omega))
    have hbo := Lib.hid (red_both piv_top (u := (exN pl (8 * pl.length)).length) (by omega) (rowsR_lt s.size (exN pl (8 * pl.length)) (restOf s (exN pl (8 * pl.length)) x)))
    have he2 : rowsR s.size (exN pl (8 * pl.length)) (restOf s (exN pl (8 * pl.length)) x) = rowsOf s (exN pl (8 * pl.length)) x := rfl
    rw [he2] at hbo
    have HPM := Lib.hid hpm
    simp only [intsN_len] at HR ⊢
    clear he2 hok hb3 hps hpm hUl
    go_enter Try.func44, Try.ntmps44
    go_wp2_with (first | (go_at_call 54; refine (within_i _ _ _ _).mono ?_; rintro e w1 ⟨rfl, rfl⟩) | (go_at_call 55; refine HR.out.mono ?_; rintro e w1 ⟨rfl, rfl⟩) | (go_at_call 61; go_in))
    go_loopw [34, 8] (fun i y wr => ∃ k : Nat, k ≤ pl.length ∧ i = .int .i64 k ∧ Below w.heap.size w wr ∧ Hid (Int64L w.heap.size wr y (intsN (exN pl (8 * k))))) (fun i _ _ => pl.length - (intOf i).toNat)
    case atStart => exact ⟨0, Nat.zero_le _, rfl, Below.refl _ _, Lib.hid OwnL.of_nil⟩
    case round =>
      obtain ⟨k, hk, rfl, hb, HO⟩ := hrel
      by_cases hlt : k < pl.length
      · obtain ⟨p, hp⟩ : ∃ p, pl[k]? = some p := ⟨pl[k], List.getElem?_eq_getElem hlt⟩
        obtain ⟨g, rfl, hg, hc⟩ := hA.resolve_left (by intro h0; have := congrArg List.length h0; rw [intsN_len] at this; simp only [List.length_nil] at this; omega)
        have p0 := (hb.cell (p := ⟨g, k, none⟩) hg).trans (hc k _ (intsN_get hp))
        have hpm := HPM.out p (List.mem_of_getElem? hp)
        have HN := Lib.hid (fun b (hb : b < 8) => exN_next hb hp)
        generalize hwo : wr = wo at *; clear hwo
        have hbo2 := hb
        have HO2 : Hid (Int64L w.heap.size wo _ (intsN (exN pl (8 * k + 0)))) := HO
        clear hp hc HO
        go_wp2
        go_loopw [38, 8] (fun i y wr => ∃ b : Nat, b ≤ 8 ∧ i = .int .i64 b ∧ Below w.heap.size w wr ∧ Hid (Int64L w.heap.size wr y (intsN (exN pl (8 * k + b))))) (fun i _ _ => 8 - (intOf i).toNat)
        case atStart => exact ⟨0, Nat.zero_le _, rfl, hbo2, HO2⟩
        case round =>
          clear HO2 hbo2 hb
          obtain ⟨b, hb8, rfl, hb, HO⟩ := hrel
          have zr := hb.size
          obtain ⟨Ay, cy, rfl, _⟩ := ints_shape HO.out
          rw [exN_len] at HO ⊢
          by_cases hlb : b < 8
          · have HNb := Lib.hid (HN.out b hlb)
            have HC : Hid (((8 * p + b : Nat) : Int) = 8 * (p : Int) + (b : Int)) := Lib.hid (by omega)
            have hbl : (intsN (exN pl (8 * k + b))).length + 1 ≤ 16777216 := by rw [intsN_len, exN_len]; omega
            have hby : (8 : Nat) ≤ 4096 := by decide
            have hbase : w.heap.size ≤ (wr.alloc (.cells #[.int .i64 (8 * (p : Int) + (b : Int))] 2)).heap.size := by simp; omega
            go_wp2_with (at_builtin; refine wpList_app1 icell 1 icell_len _ rfl _ _ _ rfl w.heap.size 2 i0 (.int .i64 0) 8 Try.underlying34 hi hz0 hz1 hz2 rfl (by decide) _ (intsN (exN pl (8 * k + b))) rfl (HO.out.alloc _) _ 1 (8 * (p : Int) + (b : Int)) rfl ?_ (by simp [icell, Value.oneCell']) hbl hby hbase ?_; (· intro j u hu; cases j with | zero => (simp [icell] at hu; subst hu; simp) | succ j => simp [icell] at hu); intro v' w8 how8 hg8'; have hg8 : Below w.heap.size w w8 := own_grown_below (HO.out.alloc (.cells #[.int .i64 (8 * (p : Int) + (b : Int))] 2)) (Below.alloc hb zr _) hg8' (Nat.le_refl _) hbase)
            go_roundw
            case rel => exact ⟨b + 1, by omega, by go_num, hg8, by rw [HNb.out, intsN_app, HC.out]; exact Lib.hid how8⟩
            case measure => simp [intOf]; omega
          · obtain rfl : b = 8 := by omega
            go_wp2
            go_roundw
            case rel => exact ⟨k + 1, by omega, by go_num, hb, HO⟩
            case measure => simp [intOf]; omega
      · obtain rfl : k = pl.length := by omega
        obtain ⟨Ay, cy, rfl, _⟩ := ints_shape HO.out
        have HIA := Lib.hid (intsAt_own HO.out)
        have hU64 : (exN pl (8 * pl.length)).length ≤ 64 := by rw [exN_len]; omega
        have zr := hb.size
        clear HO HR HPM hA
        generalize exN pl (8 * pl.length) = U at *
        have HF2 := HF
        generalize hXi : redI top [] (rowsOf s U x) = X at *
        generalize hXs : redS (rowsOf s U x) = Y at *
        clear hXi hXs
        unfold filQ at HX
        rcases hbo.out with ⟨rfl, rfl, _⟩ | ⟨a, b, rfl, rfl, hra, hrb, _, hua, hub2, hsa, hsb, hab, hal⟩
        · go_wp2_with (fail)
          refine (HX.out _ _ HIA.out).mono ?_; rintro e w2 ⟨rfl, hb2⟩
          go_wp2
          rw [HF.out]
          exact bodyPost_ret (by simp [results, Try.results44, go_sem]; first | done | rfl | exact ⟨rfl, rfl⟩) rfl ⟨rfl, hb.trans (hb2.mono zr)⟩
        · simp only [totN_one, outI_one] at HX
          have hof := one_free hra hua
          by_cases hlu : b.length < U.length
          · have HFF := Lib.hid (sb_full (s := s) hlu)
            have hd : decide ((freeU top a U.length).length < 62 ∧ 2 ^ (freeU top a U.length).length ≤ 1) = false := decide_eq_false (by rw [hof]; omega)
            rw [hd] at HX
            generalize strN (fillOf (bts s) U top a (freeU top a U.length).reverse 0) = sr at *
            clear hra hrb hua hub2 hsa hsb hof hd hal hbo
            go_wp2_with (fail)
            refine (HX.out _ _ HIA.out).mono ?_; rintro e w2 ⟨v2, rfl, o2, hb2⟩
            obtain ⟨A2, c2, rfl, _⟩ := OwnL.shape o2
            go_wp2
            rw [HF.out, HFF.out]
            exact bodyPost_ret (by simp [results, Try.results44, go_sem]; first | done | rfl | exact ⟨rfl, rfl⟩) rfl ⟨rfl, hb.trans (hb2.mono zr)⟩
          · have hle := red_len_le hrb hub2
            have hau : a.length = U.length := by omega
            have HFF := Lib.hid (sb_one (s := s) hlu)
            have hd : decide ((freeU top a U.length).length < 62 ∧ 2 ^ (freeU top a U.length).length ≤ 1) = true := decide_eq_true (hof.2 hau)
            rw [hd] at HX
            have hos := only_same (l := bts s) (by omega) hra hrb hua hub2 (fun x => (hsa x).trans (hsb x).symm) hau
            simp only [hos] at HX
            generalize strN (fillN (bts s) U (comp low b 0).testBit) = sr at *
            clear hra hrb hua hub2 hsa hsb hof hd hal hbo hos
            go_wp2_with (fail)
            refine (HX.out _ _ HIA.out).mono ?_; rintro e w2 ⟨v2, rfl, o2, hb2⟩
            obtain ⟨A2, c2, rfl, hA2⟩ := OwnL.shape o2
            obtain ⟨g2, rfl, _, _⟩ := hA2.resolve_left (by simp)
            have p0 := StringL.at_ (k := 0) o2 rfl rfl
            clear o2 HX
            go_wp2
            rw [HF.out, HFF.out]
            exact bodyPost_ret (by simp [results, Try.results44, go_sem]; first | done | rfl | exact ⟨rfl, rfl⟩) rfl ⟨rfl, hb.trans (hb2.mono zr)⟩
end Go.Proofs.Ytklalbbacbaoiaa
