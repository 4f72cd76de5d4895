/- SolveBytes, spec: the walk. -/
import Derived.Test.YtklalbbacbaoiaaSolI
import Derived.Test.YtklalbbacbaoiaaFilS
namespace Go.Proofs.Ytklalbbacbaoiaa
set_option linter.unusedVariables false
open Go.RowKit
theorem srt_ge {pl : List Nat} (h : pl.Pairwise (· < ·)) : ∀ i (hi : i < pl.length), i ≤ pl[i] := by
  intro i
  induction i with
  | zero => intro hi; omega
  | succ i ih =>
    intro hi
    have h1 := ih (by omega)
    have h2 := List.pairwise_iff_getElem.1 h i (i + 1) (by omega) hi (by omega)
    omega
theorem srt_len {pl : List Nat} {m : Nat} (h : pl.Pairwise (· < ·)) (hm : ∀ p ∈ pl, p < m) : pl.length ≤ m := by
  rcases Nat.eq_zero_or_pos pl.length with h0 | h0
  · omega
  · have h1 := srt_ge h (pl.length - 1) (by omega)
    have h2 := hm pl[pl.length - 1] (List.getElem_mem _)
    omega
theorem sb_unk {s : ByteArray} {pl : List Nat} {c : Int} (h1 : ∀ p ∈ pl, p < s.size) (h2 : pl.Pairwise (· < ·)) (h3 : risesB 0 (s.size - 1) (intsN pl) = true) : unkOk s (intsN (exN pl (8 * pl.length))) c = sbOk s (intsN pl) c := by
  unfold unkOk sbOk
  rw [ex_rises h1 h2, h3, intsN_len, intsN_len, exN_len, Bool.and_true, Bool.true_and]
  congr 1
  exact decide_eq_decide.2 (by omega)
set_option maxRecDepth 20000 in
set_option maxHeartbeats 4000000 in
theorem sol_s (s : ByteArray) (l : List Int) (v : Value) (c : Int) (w : World) (h : IntsAt w v l) (hm : l.length ≤ 1048576) (hs : s.size ≤ 1048576) (hc : -9223372036854775808 ≤ c ∧ c ≤ 9223372036854775807) :
    Calls Try.prog 43 #[.string s, v, .int .i64 c] w fun e w' => e = .returned (sbV s l c) ∧ Below w.heap.size w w' := by
  obtain ⟨i0, hi, hz0, hz1, hz2⟩ := info_parts icell_info
  have HR := Lib.hid (rises_s l v 0 (s.size - 1) w h (by omega))
  have hI0 := h
  obtain ⟨A, cA, rfl, hA⟩ := h
  cases hb1 : inB s.size 1 64
  · have HF := Lib.hid (sbV_no (s := s) (l := l) (c := c) (by unfold sbOk; rw [hb1]; rfl))
    go_enter Try.func43, Try.ntmps43
    go_wp2_with (first | (go_at_call 51; refine (in_s _ _ _ _).mono ?_; rintro e w1 ⟨rfl, rfl⟩) | (go_at_call 52; refine HR.out.mono ?_; rintro e w1 ⟨rfl, hb1⟩) | (go_at_call 82; go_in))
    rw [HF.out]
    exact bodyPost_ret (by simp [results, Try.results43, go_sem]; first | done | rfl | exact ⟨rfl, rfl⟩) rfl ⟨rfl, Below.refl _ _⟩
  cases hb3 : risesB 0 (s.size - 1) l
  · have HF := Lib.hid (sbV_no (s := s) (l := l) (c := c) (by unfold sbOk; rw [hb3]; simp))
    rw [hb3] at HR
    go_enter Try.func43, Try.ntmps43
    go_wp2_with (first | (go_at_call 51; refine (in_s _ _ _ _).mono ?_; rintro e w1 ⟨rfl, rfl⟩) | (go_at_call 52; refine HR.out.mono ?_; rintro e w1 ⟨rfl, hb1⟩) | (go_at_call 82; go_in))
    rw [HF.out]
    exact bodyPost_ret (by simp [results, Try.results43, go_sem]; first | done | rfl | exact ⟨rfl, rfl⟩) rfl ⟨rfl, by first | exact hb1 | assumption⟩
  rw [hb3] at HR
  obtain ⟨pl, rfl, hpm, hps⟩ := places_nat hb3
  have h1 := inB_yes hb1
  have hplen := srt_len hps hpm
  have HUK := Lib.hid (sb_unk (c := c) hpm hps hb3)
  have hUl := exN_len pl (8 * pl.length)
  have HF1 := Lib.hid (fun h => sbV_no (s := s) (l := intsN pl) (c := c) h)
  have HF2 := Lib.hid (fun (k : Nat) (h : sbOk s (intsN pl) (k : Int) = true) => sbV_yes h)
  have HUM := Lib.hid (fun b (hb : b ∈ exN pl (8 * pl.length)) => exN_mem hpm hb)
  have HPM := Lib.hid hpm
  simp only [intsN_len] at HR ⊢
  clear hb3 hps hpm hUl
  go_enter Try.func43, Try.ntmps43
  go_wp2_with (fail)
  have q1 : inB s.size 1 64 = true := hb1
  go_wp2_with (first | (go_at_call 51; refine (in_s _ _ _ _).mono ?_; rintro e w1 ⟨rfl, rfl⟩) | (go_at_call 52; refine HR.out.mono ?_; rintro e w1 ⟨rfl, hb1⟩) | (go_at_call 82; go_in))
  have hb01 : Below w.heap.size w w1 := by first | exact hb1 | assumption
  have z1 := hb01.size
  have hbs : Below w.heap.size w (w1.alloc (.cells #[] 2)) := Below.alloc hb01 z1 _
  have HO0 : Hid (Int64L w.heap.size (w1.alloc (.cells #[] 2)) (.slice (some ⟨w1.heap.size, 0, none⟩) 0 0) (intsN (exN pl (8 * 0)))) := Lib.hid (OwnL.of_empty w1 z1)
  go_loopw [9, 8] (fun i y wr => ∃ k : Nat, k ≤ pl.length ∧ i = .int .i64 k ∧ Below w.heap.size w wr ∧ Hid (Int64L w.heap.size wr y (intsN (exN pl (8 * k))))) (fun i _ _ => pl.length - (intOf i).toNat)
  case atStart => exact ⟨0, Nat.zero_le _, rfl, hbs, HO0⟩
  case round =>
    clear HO0 hbs hb01 z1
    obtain ⟨k, hk, rfl, hb, HO⟩ := hrel
    by_cases hlt : k < pl.length
    · obtain ⟨p, hp⟩ : ∃ p, pl[k]? = some p := ⟨pl[k], List.getElem?_eq_getElem hlt⟩
      obtain ⟨g, rfl, hg, hc⟩ := hA.resolve_left (by intro h0; have := congrArg List.length h0; rw [intsN_len] at this; simp only [List.length_nil] at this; omega)
      have hpc := hc k _ (intsN_get hp)
      have hpm := HPM.out p (List.mem_of_getElem? hp)
      have HN := Lib.hid (fun b (hb : b < 8) => exN_next hb hp)
      generalize hwo : wr = wo at *; clear hwo
      have hbo2 := hb
      have HO2 : Hid (Int64L w.heap.size wo _ (intsN (exN pl (8 * k + 0)))) := HO
      clear hp hc HO
      go_wp2
      go_loopw [10, 8] (fun i y wr => ∃ b : Nat, b ≤ 8 ∧ i = .int .i64 b ∧ Below w.heap.size w wr ∧ Hid (Int64L w.heap.size wr y (intsN (exN pl (8 * k + b))))) (fun i _ _ => 8 - (intOf i).toNat)
      case atStart => exact ⟨0, Nat.zero_le _, rfl, hbo2, HO2⟩
      case round =>
        clear HO2 hbo2 hb
        obtain ⟨b, hb8, rfl, hb, HO⟩ := hrel
        have zr := hb.size
        obtain ⟨Ay, cy, rfl, _⟩ := ints_shape HO.out
        rw [exN_len] at HO ⊢
        by_cases hlb : b < 8
        · have p0 := (hb.cell (p := ⟨g, k, none⟩) hg).trans hpc
          have HNb := Lib.hid (HN.out b hlb)
          have HC : Hid (((8 * p + b : Nat) : Int) = 8 * (p : Int) + (b : Int)) := Lib.hid (by omega)
          have hbl : (intsN (exN pl (8 * k + b))).length + 1 ≤ 16777216 := by rw [intsN_len, exN_len]; omega
          have hby : (8 : Nat) ≤ 4096 := by decide
          have hbase : w.heap.size ≤ (wr.alloc (.cells #[.int .i64 (8 * (p : Int) + (b : Int))] 2)).heap.size := by simp; omega
          go_wp2_with (at_builtin; refine wpList_app1 icell 1 icell_len _ rfl _ _ _ rfl w.heap.size 2 i0 (.int .i64 0) 8 Try.underlying34 hi hz0 hz1 hz2 rfl (by decide) _ (intsN (exN pl (8 * k + b))) rfl (HO.out.alloc _) _ 1 (8 * (p : Int) + (b : Int)) rfl ?_ (by simp [icell, Value.oneCell']) hbl hby hbase ?_; (· intro j u hu; cases j with | zero => (simp [icell] at hu; subst hu; simp) | succ j => simp [icell] at hu); intro v' w8 how8 hg8'; have hg8 : Below w.heap.size w w8 := own_grown_below (HO.out.alloc (.cells #[.int .i64 (8 * (p : Int) + (b : Int))] 2)) (Below.alloc hb zr _) hg8' (Nat.le_refl _) hbase)
          go_roundw
          case rel => exact ⟨b + 1, by omega, by go_num, hg8, by rw [HNb.out, intsN_app, HC.out]; exact Lib.hid how8⟩
          case measure => simp [intOf]; omega
        · obtain rfl : b = 8 := by omega
          go_wp2
          go_roundw
          case rel => exact ⟨k + 1, by omega, by go_num, hb, HO⟩
          case measure => simp [intOf]; omega
    · obtain rfl : k = pl.length := by omega
      obtain ⟨Ay, cy, rfl, _⟩ := ints_shape HO.out
      have HIA := Lib.hid (intsAt_own HO.out)
      have hU512 : (exN pl (8 * pl.length)).length ≤ 512 := by rw [exN_len]; omega
      have zr := hb.size
      clear HO HR HPM hA
      cases hok : sbOk s (intsN pl) c
      · have HF := Lib.hid (HF1.out hok)
        have HS := Lib.hid (solved_no s _ _ c wr HIA.out (by rw [intsN_len]; omega) hs (by rw [HUK.out]; exact hok))
        clear HF1 HF2 HUK HUM hok
        go_wp2_with (fail)
        refine HS.out.mono ?_; rintro e w2 ⟨rfl, hb2⟩
        go_wp2
        rw [HF.out]
        exact bodyPost_ret (by simp [results, Try.results43, go_sem]; first | done | rfl | exact ⟨rfl, rfl⟩) rfl ⟨rfl, hb.trans (hb2.mono zr)⟩
      · have hok2 := hok
        unfold sbOk at hok2
        rw [Bool.and_eq_true, Bool.and_eq_true, Bool.and_eq_true, decide_eq_true_eq, intsN_len] at hok2
        obtain ⟨⟨_, hb2⟩, _, h8⟩ := hok2
        have h2 := inB_yes hb2
        have hU64 : (exN pl (8 * pl.length)).length ≤ 64 := by rw [exN_len]; omega
        obtain ⟨x, rfl⟩ : ∃ x : Nat, c = x := ⟨c.toNat, by omega⟩
        have HF := Lib.hid (HF2.out x hok)
        have HS := Lib.hid (solved_s s (exN pl (8 * pl.length)) _ x wr HIA.out (by rw [HUK.out]; exact hok) HUM.out (by omega) (by omega) (by omega))
        unfold solQ at HS
        have hrl : ∀ e ∈ rowsOf s (exN pl (8 * pl.length)) x, e.m < 2 ^ (exN pl (8 * pl.length)).length := rowsR_lt s.size (exN pl (8 * pl.length)) (restOf s (exN pl (8 * pl.length)) x)
        generalize hX : redS (rowsOf s (exN pl (8 * pl.length)) x) = X at *
        have hrb := Lib.hid (redS_ok hU64 hrl hX)
        clear hrl
        have hb16 : (rowsOf s (exN pl (8 * pl.length)) x).length = 16 := rowsOf_len _ _ _
        generalize hU : exN pl (8 * pl.length) = U at *
        clear HF1 HF2 HUK hok hU hX hb2
        cases X with
        | none =>
          have hcd : cdO none = 3 := rfl
          go_wp2_with (fail)
          refine HS.out.mono ?_; rintro e w2 ⟨v2, rfl, o2, hb2⟩
          obtain ⟨A2, c2, rfl, _⟩ := OwnL.shape o2
          go_wp2
          rw [HF.out]
          exact bodyPost_ret (by simp [results, Try.results43, go_sem]; first | done | rfl | exact ⟨rfl, rfl⟩) rfl ⟨rfl, hb.trans (hb2.mono zr)⟩
        | some b =>
          obtain ⟨k1, _, k3, _, k5⟩ := hrb.out
          have hbl : b.length ≤ 64 := by
            have : b.length ≤ 16 := by rw [← hb16]; exact k5
            omega
          have HFI := Lib.hid (fun W rv (h : IntsAt W (.slice Ay U.length cy) (intsN U)) (hr : RowsAt .u64 W rv b) => fill_s s U _ rv b 0 W h hr HUM.out (by omega) (by omega) (fun e he => ⟨fun e0 => (by have := k1.on e he; rw [e0] at this; simp at this), k3 e he⟩) (by decide) (by omega))
          have HS' : Hid (Calls Try.prog 71 #[.string s, .slice Ay U.length cy, .int .i64 x] wr fun e w' => ∃ v', e = .returned (.tuple #[v', .int .i64 0]) ∧ RowL .u64 107 wr.heap.size w' v' b ∧ Below wr.heap.size wr w') := HS
          clear k1 k3 k5 hrb HS hb16
          by_cases hlu : b.length < U.length
          · have HFF := Lib.hid (sb_full (s := s) hlu)
            go_wp2_with (fail)
            refine HS'.out.mono ?_; rintro e w2 ⟨v2, rfl, o2, hb2⟩
            obtain ⟨A2, c2, rfl, _⟩ := OwnL.shape o2
            go_wp2
            rw [HF.out, HFF.out]
            exact bodyPost_ret (by simp [results, Try.results43, go_sem]; first | done | rfl | exact ⟨rfl, rfl⟩) rfl ⟨rfl, hb.trans (hb2.mono zr)⟩
          · have HFF := Lib.hid (sb_one (s := s) hlu)
            generalize strN (fillN (bts s) U (comp low b 0).testBit) = sr at *
            go_wp2_with (fail)
            refine HS'.out.mono ?_; rintro e w2 ⟨v2, rfl, o2, hb2⟩
            have HRA := Lib.hid (RowsAt.own o2)
            obtain ⟨A2, c2, rfl, _⟩ := OwnL.shape o2
            have HIB := Lib.hid (HIA.out.below hb2)
            have z2 := hb2.size
            clear o2
            go_wp2_with (fail)
            refine (HFI.out _ _ HIB.out HRA.out).mono ?_; rintro e w3 ⟨rfl, hb3⟩
            go_wp2
            rw [HF.out, HFF.out]
            exact bodyPost_ret (by simp [results, Try.results43, go_sem]; first | done | rfl | exact ⟨rfl, rfl⟩) rfl ⟨rfl, hb.trans ((hb2.trans (hb3.mono z2)).mono zr)⟩
end Go.Proofs.Ytklalbbacbaoiaa
