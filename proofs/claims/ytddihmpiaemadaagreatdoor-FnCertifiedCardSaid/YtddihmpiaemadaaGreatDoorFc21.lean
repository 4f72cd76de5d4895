/- SolveBytes, impl: the walk. l25First, l25Fill: the walks. SolveBytes, spec: the walk. Places at which readings differ; the bytes that a check value yields: the walks. Votes over readings, impl and spec: the walks. -/
import Derived.Test.YtddihmpiaemadaaGreatDoorFc14
import Derived.Test.YtddihmpiaemadaaGreatDoorFc20
import Derived.Test.YtddihmpiaemadaaGreatDoorFc11
import Derived.Test.YtddihmpiaemadaaGreatDoorFc12
import Derived.Test.YtddihmpiaemadaaGreatDoorFc18
import Derived.Test.YtddihmpiaemadaaGreatDoorFc02
namespace Go.Proofs.YtddihmpiaemadaaGreatDoor
set_option linter.unusedVariables false
set_option linter.unusedSimpArgs false
open Go.RowKit
theorem sb_full {s : ByteArray} {U : List Nat} {b : List Rw} (h : b.length < U.length) : sbR s U (some b) = (.empty, 11) := by unfold sbR; exact if_pos h
theorem sb_one {s : ByteArray} {U : List Nat} {b : List Rw} (h : ¬ b.length < U.length) : sbR s U (some b) = (strN (fillN (bts s) U (comp low b 0).testBit), 0) := by unfold sbR; exact if_neg h
theorem one_free {a : List Rw} {u : Nat} (ha : Red top a) (hu : ∀ e ∈ a, e.m < 2 ^ u) : ((freeU top a u).length < 62 ∧ 2 ^ (freeU top a u).length ≤ 1) ↔ a.length = u := by
  have h := free_len ha (red_plt ha hu)
  constructor
  · rintro ⟨_, h2⟩
    have : (freeU top a u).length = 0 := by
      rcases Nat.eq_zero_or_pos (freeU top a u).length with h0 | h0
      · exact h0
      · have := Nat.pow_le_pow_right (n := 2) (by omega) h0; omega
    omega
  · intro e
    have : (freeU top a u).length = 0 := by omega
    rw [this]; exact ⟨by decide, by decide⟩
set_option maxRecDepth 20000 in
set_option maxHeartbeats 4000000 in
theorem sol_i (s : ByteArray) (l : List Int) (v : Value) (c : Int) (w : World) (h : IntsAt w v l) (hm : l.length ≤ 1048576) (hs : s.size ≤ 1048576) :
    Calls Tryz.prog 87 #[.string s, v, .int .i64 c] w fun e w' => e = .returned (sbV s l c) ∧ Below w.heap.size w w' := by
  obtain ⟨i0, hi, hz0, hz1, hz2⟩ := info_parts icell_info
  have HR := Lib.hid (rises_i l v 0 (s.size - 1) w h (by omega))
  cases hok : sbOk s l c
  · have HF := Lib.hid (sbV_no hok)
    have hb4 : Hid (∀ b1 b2 b3, inB s.size 1 64 = b1 → inB c 0 65535 = b2 → risesB 0 (s.size - 1) l = b3 → ((b1 && b2) && (b3 && decide (l.length ≤ 8))) = false) := Lib.hid (by rintro _ _ _ rfl rfl rfl; exact hok)
    obtain ⟨A, cA, rfl, _⟩ := h
    have H4 := hb4.out _ _ _ rfl rfl rfl
    generalize risesB 0 (s.size - 1) l = b3 at *
    generalize hb1 : inB s.size 1 64 = b1 at *
    generalize hb2 : inB c 0 65535 = b2 at *
    clear hok hb4
    by_cases h8 : l.length ≤ 8
    · rw [decide_eq_true h8] at H4
      cases b1 <;> cases b2 <;> cases b3 <;> first | (cases H4; done) | skip
      all_goals
        clear H4
        go_enter Tryz.func87, Tryz.ntmps87
        go_wp2_with (first | (go_at_call 41; refine (within_i _ _ _ _).mono ?_; rintro e w1 ⟨rfl, rfl⟩) | (go_at_call 113; refine HR.out.mono ?_; rintro e w1 ⟨rfl, rfl⟩) | (go_at_call 112; go_in))
        rw [HF.out]
        exact bodyPost_ret (by simp [results, Tryz.results87, go_sem]; first | done | rfl | exact ⟨rfl, rfl⟩) rfl ⟨rfl, Below.refl _ _⟩
    · cases b1 <;> cases b2 <;> cases b3
      all_goals
        clear H4
        go_enter Tryz.func87, Tryz.ntmps87
        go_wp2_with (first | (go_at_call 41; refine (within_i _ _ _ _).mono ?_; rintro e w1 ⟨rfl, rfl⟩) | (go_at_call 113; refine HR.out.mono ?_; rintro e w1 ⟨rfl, rfl⟩) | (go_at_call 112; go_in))
        rw [HF.out]
        exact bodyPost_ret (by simp [results, Tryz.results87, go_sem]; first | done | rfl | exact ⟨rfl, rfl⟩) rfl ⟨rfl, Below.refl _ _⟩
  · have hok2 := hok
    unfold sbOk at hok2
    rw [Bool.and_eq_true, Bool.and_eq_true, Bool.and_eq_true, decide_eq_true_eq] at hok2
    obtain ⟨⟨hb1, hb2⟩, hb3, h8⟩ := hok2
    obtain ⟨pl, rfl, hpm, hps⟩ := places_nat hb3
    have h1 := inB_yes hb1
    have h2 := inB_yes hb2
    obtain ⟨x, rfl⟩ : ∃ x : Nat, c = x := ⟨c.toNat, by omega⟩
    have HF := Lib.hid (sbV_yes hok)
    rw [intsN_len] at h8 hm
    rw [hb3] at HR
    obtain ⟨A, cA, rfl, hA⟩ := h
    have hUl := exN_len pl (8 * pl.length)
    have HX := Lib.hid (fun v W (h : IntsAt W v (intsN (exN pl (8 * pl.length)))) => fills_i s (exN pl (8 * pl.length)) v x 1 W h (fun b hb => exN_mem hpm hb) ((exN_srt hps).imp fun h => Nat.ne_of_lt h) (by omega) (by omega) (by omega) (by omega))
    have hbo := Lib.hid (red_both piv_top (u := (exN pl (8 * pl.length)).length) (by omega) (rowsR_lt s.size (exN pl (8 * pl.length)) (restOf s (exN pl (8 * pl.length)) x)))
    have he2 : rowsR s.size (exN pl (8 * pl.length)) (restOf s (exN pl (8 * pl.length)) x) = rowsOf s (exN pl (8 * pl.length)) x := rfl
    rw [he2] at hbo
    have HPM := Lib.hid hpm
    simp only [intsN_len] at HR ⊢
    clear he2 hok hb3 hps hpm hUl
    go_enter Tryz.func87, Tryz.ntmps87
    go_wp2_with (first | (go_at_call 41; refine (within_i _ _ _ _).mono ?_; rintro e w1 ⟨rfl, rfl⟩) | (go_at_call 113; refine HR.out.mono ?_; rintro e w1 ⟨rfl, rfl⟩) | (go_at_call 112; go_in))
    go_loopw [34, 8] (fun i y wr => ∃ k : Nat, k ≤ pl.length ∧ i = .int .i64 k ∧ Below w.heap.size w wr ∧ Hid (Int64L w.heap.size wr y (intsN (exN pl (8 * k))))) (fun i _ _ => pl.length - (intOf i).toNat)
    case atStart => exact ⟨0, Nat.zero_le _, rfl, Below.refl _ _, Lib.hid OwnL.of_nil⟩
    case round =>
      obtain ⟨k, hk, rfl, hb, HO⟩ := hrel
      by_cases hlt : k < pl.length
      · obtain ⟨p, hp⟩ : ∃ p, pl[k]? = some p := ⟨pl[k], List.getElem?_eq_getElem hlt⟩
        obtain ⟨g, rfl, hg, hc⟩ := hA.resolve_left (by intro h0; have := congrArg List.length h0; rw [intsN_len] at this; simp only [List.length_nil] at this; omega)
        have p0 := (hb.cell (p := ⟨g, k, none⟩) hg).trans (hc k _ (intsN_get hp))
        have hpm := HPM.out p (List.mem_of_getElem? hp)
        have HN := Lib.hid (fun b (hb : b < 8) => exN_next hb hp)
        generalize hwo : wr = wo at *; clear hwo
        have hbo2 := hb
        have HO2 : Hid (Int64L w.heap.size wo _ (intsN (exN pl (8 * k + 0)))) := HO
        clear hp hc HO
        go_wp2
        go_loopw [38, 8] (fun i y wr => ∃ b : Nat, b ≤ 8 ∧ i = .int .i64 b ∧ Below w.heap.size w wr ∧ Hid (Int64L w.heap.size wr y (intsN (exN pl (8 * k + b))))) (fun i _ _ => 8 - (intOf i).toNat)
        case atStart => exact ⟨0, Nat.zero_le _, rfl, hbo2, HO2⟩
        case round =>
          clear HO2 hbo2 hb
          obtain ⟨b, hb8, rfl, hb, HO⟩ := hrel
          have zr := hb.size
          obtain ⟨Ay, cy, rfl, _⟩ := ints_shape HO.out
          rw [exN_len] at HO ⊢
          by_cases hlb : b < 8
          · have HNb := Lib.hid (HN.out b hlb)
            have HC : Hid (((8 * p + b : Nat) : Int) = 8 * (p : Int) + (b : Int)) := Lib.hid (by omega)
            have hbl : (intsN (exN pl (8 * k + b))).length + 1 ≤ 16777216 := by rw [intsN_len, exN_len]; omega
            have hby : (8 : Nat) ≤ 4096 := by decide
            have hbase : w.heap.size ≤ (wr.alloc (.cells #[.int .i64 (8 * (p : Int) + (b : Int))] 2)).heap.size := by simp; omega
            go_wp2_with (at_builtin; refine wpList_app1 icell 1 icell_len _ rfl _ _ _ rfl w.heap.size 2 i0 (.int .i64 0) 8 Tryz.underlying25 hi hz0 hz1 hz2 rfl (by decide) _ (intsN (exN pl (8 * k + b))) rfl (HO.out.alloc _) _ 1 (8 * (p : Int) + (b : Int)) rfl ?_ (by simp [icell, Value.oneCell']) hbl hby hbase ?_; (· intro j u hu; cases j with | zero => (simp [icell] at hu; subst hu; simp) | succ j => simp [icell] at hu); intro v' w8 how8 hg8'; have hg8 : Below w.heap.size w w8 := own_grown_below (HO.out.alloc (.cells #[.int .i64 (8 * (p : Int) + (b : Int))] 2)) (Below.alloc hb zr _) hg8' (Nat.le_refl _) hbase)
            go_roundw
            case rel => exact ⟨b + 1, by omega, by go_num, hg8, by rw [HNb.out, intsN_app, HC.out]; exact Lib.hid how8⟩
            case measure => simp [intOf]; omega
          · obtain rfl : b = 8 := by omega
            go_wp2
            go_roundw
            case rel => exact ⟨k + 1, by omega, by go_num, hb, HO⟩
            case measure => simp [intOf]; omega
      · obtain rfl : k = pl.length := by omega
        obtain ⟨Ay, cy, rfl, _⟩ := ints_shape HO.out
        have HIA := Lib.hid (intsAt_own HO.out)
        have hU64 : (exN pl (8 * pl.length)).length ≤ 64 := by rw [exN_len]; omega
        have zr := hb.size
        clear HO HR HPM hA
        generalize exN pl (8 * pl.length) = U at *
        have HF2 := HF
        generalize hXi : redI top [] (rowsOf s U x) = X at *
        generalize hXs : redS (rowsOf s U x) = Y at *
        clear hXi hXs
        unfold filQ at HX
        rcases hbo.out with ⟨rfl, rfl, _⟩ | ⟨a, b, rfl, rfl, hra, hrb, _, hua, hub2, hsa, hsb, hab, hal⟩
        · go_wp2_with (fail)
          refine (HX.out _ _ HIA.out).mono ?_; rintro e w2 ⟨rfl, hb2⟩
          go_wp2
          rw [HF.out]
          exact bodyPost_ret (by simp [results, Tryz.results87, go_sem]; first | done | rfl | exact ⟨rfl, rfl⟩) rfl ⟨rfl, hb.trans (hb2.mono zr)⟩
        · simp only [totN_one, outI_one] at HX
          have hof := one_free hra hua
          by_cases hlu : b.length < U.length
          · have HFF := Lib.hid (sb_full (s := s) hlu)
            have hd : decide ((freeU top a U.length).length < 62 ∧ 2 ^ (freeU top a U.length).length ≤ 1) = false := decide_eq_false (by rw [hof]; omega)
            rw [hd] at HX
            generalize strN (fillOf (bts s) U top a (freeU top a U.length).reverse 0) = sr at *
            clear hra hrb hua hub2 hsa hsb hof hd hal hbo
            go_wp2_with (fail)
            refine (HX.out _ _ HIA.out).mono ?_; rintro e w2 ⟨v2, rfl, o2, hb2⟩
            obtain ⟨A2, c2, rfl, _⟩ := OwnL.shape o2
            go_wp2
            rw [HF.out, HFF.out]
            exact bodyPost_ret (by simp [results, Tryz.results87, go_sem]; first | done | rfl | exact ⟨rfl, rfl⟩) rfl ⟨rfl, hb.trans (hb2.mono zr)⟩
          · have hle := red_len_le hrb hub2
            have hau : a.length = U.length := by omega
            have HFF := Lib.hid (sb_one (s := s) hlu)
            have hd : decide ((freeU top a U.length).length < 62 ∧ 2 ^ (freeU top a U.length).length ≤ 1) = true := decide_eq_true (hof.2 hau)
            rw [hd] at HX
            have hos := only_same (l := bts s) (by omega) hra hrb hua hub2 (fun x => (hsa x).trans (hsb x).symm) hau
            simp only [hos] at HX
            generalize strN (fillN (bts s) U (comp low b 0).testBit) = sr at *
            clear hra hrb hua hub2 hsa hsb hof hd hal hbo hos
            go_wp2_with (fail)
            refine (HX.out _ _ HIA.out).mono ?_; rintro e w2 ⟨v2, rfl, o2, hb2⟩
            obtain ⟨A2, c2, rfl, hA2⟩ := OwnL.shape o2
            obtain ⟨g2, rfl, _, _⟩ := hA2.resolve_left (by simp)
            have p0 := StringL.at_ (k := 0) o2 rfl rfl
            clear o2 HX
            go_wp2
            rw [HF.out, HFF.out]
            exact bodyPost_ret (by simp [results, Tryz.results87, go_sem]; first | done | rfl | exact ⟨rfl, rfl⟩) rfl ⟨rfl, hb.trans (hb2.mono zr)⟩
end Go.Proofs.YtddihmpiaemadaaGreatDoor
namespace Go.Proofs.YtddihmpiaemadaaGreatDoor
set_option linter.unusedVariables false
set_option linter.unusedSimpArgs false
open Go.RowKit
end Go.Proofs.YtddihmpiaemadaaGreatDoor
namespace Go.Proofs.YtddihmpiaemadaaGreatDoor
set_option linter.unusedVariables false
set_option linter.unusedSimpArgs false
open Go.RowKit
end Go.Proofs.YtddihmpiaemadaaGreatDoor
namespace Go.Proofs.YtddihmpiaemadaaGreatDoor
set_option linter.unusedVariables false
set_option linter.unusedSimpArgs false
open Go.RowKit
theorem ne_u8 {a b : Nat} : (((a : Int)) != ((b : Int))) = !decide (a = b) := by
  by_cases h : a = b
  · subst h; simp
  · rw [decide_eq_false h, Bool.not_false, bne_iff_ne]; omega
set_option maxRecDepth 20000 in
set_option maxHeartbeats 4000000 in
theorem dif_i (B : Nat) (D : List ByteArray) (v : Value) (w : World) (h : StringL B w v D) (hn : D.length ≤ 1048576) (n : Nat) (hs : ∀ s ∈ D, s.size = n) (hn2 : n ≤ 1048576) (h0 : D ≠ []) :
    Calls Tryz.prog 88 #[v] w fun r w' => RetL icell 1 2 w (fltN (diB D) n) r w' := by
  obtain ⟨i0, hi, hz0, hz1, hz2⟩ := info_parts icell_info
  obtain ⟨A, c, rfl, hA⟩ := OwnL.shape h
  obtain ⟨g, rfl, _, hg⟩ := hA.resolve_left h0
  have HC := Lib.hid (fun k s (hk : D[k]? = some s) => StringL.at_ h rfl hk)
  have hl : 0 < D.length := List.length_pos_iff.2 h0
  obtain ⟨s0, hs0⟩ : ∃ s, D[0]? = some s := ⟨D[0], List.getElem?_eq_getElem hl⟩
  have HC0 := HC.out 0 s0 hs0
  have hs00 := hs s0 (List.mem_of_getElem? hs0)
  have HS := Lib.hid hs
  have H0 := Lib.hid hs0
  clear hA h h0 hs hs0
  subst hs00
  go_enter Tryz.func88, Tryz.ntmps88
  go_wp2_with (fail)
  go_loopw [11, 3] (fun i out wr => ∃ (k : Nat) (acc : List Int), k ≤ s0.size ∧ i = .int .i64 k ∧ acc.length ≤ k ∧ Below w.heap.size w wr ∧ Int64L w.heap.size wr out acc ∧ Hid (acc = fltN (diB D) k)) (fun i _ _ => s0.size - (intOf i).toNat)
  case atStart => exact ⟨0, [], by omega, rfl, by simp, Below.refl _ _, OwnL.of_nil, Lib.hid rfl⟩
  case round =>
    obtain ⟨k, acc, hk, rfl, hac, hb, how, HM⟩ := hrel
    have zr := hb.size
    by_cases hlt : k < s0.size
    · generalize hwo : wr = wo at *; clear hwo
      have HO := Lib.hid how
      clear how
      go_wp2_with (fail)
      go_loopw [16, 3] (fun j ou wx => ∃ q : Nat, q ≤ D.length ∧ j = .int .i64 q ∧ ou = u3 ∧ Below wo.heap.size wo wx ∧ Hid (∀ (q' : Nat) (s : ByteArray), q' < q → D[q']? = some s → ∃ hi : k < s.size, ((s[k].toNat : Int) != (s0[k].toNat : Int)) = false)) (fun j _ _ => D.length - (intOf j).toNat)
      case atStart => exact ⟨0, by omega, rfl, rfl, Below.refl _ _, Lib.hid fun q' s hq => by omega⟩
      case round =>
        obtain ⟨q, hq, rfl, rfl, hbx, HQ⟩ := hrel
        have hbw := hb.trans (hbx.mono zr)
        have HOX := Lib.hid (OwnL.below HO.out hbx)
        by_cases hltq : q < D.length
        · obtain ⟨s, hs⟩ : ∃ s, D[q]? = some s := ⟨D[q], List.getElem?_eq_getElem hltq⟩
          have q0 := (hbw.cell (p := ⟨g, q, none⟩) hg).trans (HC.out q s hs)
          have q1 := (hbw.cell (p := ⟨g, 0, none⟩) hg).trans HC0
          have hsz1 := HS.out s (List.mem_of_getElem? hs)
          have his : k < s.size := by omega
          by_cases hc : s[k].toNat = s0[k].toNat
          · have he : (((s[k].toNat : Nat) : Int) != ((s0[k].toNat : Nat) : Int)) = false := by rw [ne_u8, decide_eq_true hc]; rfl
            have HN : Hid (∀ (q' : Nat) (s : ByteArray), q' < q + 1 → D[q']? = some s → ∃ hi : k < s.size, ((s[k].toNat : Int) != (s0[k].toNat : Int)) = false) := Lib.hid fun q' t hq' ht => by
              by_cases e : q' = q
              · subst e
                rw [hs] at ht
                obtain rfl := Option.some.inj ht
                exact ⟨his, he⟩
              · exact HQ.out q' t (by omega) ht
            clear hs hsz1 hc
            go_wp2_with (fail)
            go_quiet (fail)
            go_wp2_with (fail)
            go_roundw
            case rel => exact ⟨q + 1, by omega, by go_num, rfl, below_drewNQ hbx _, HN⟩
            case measure => simp [intOf]; omega
          · have he : (((s[k].toNat : Nat) : Int) != ((s0[k].toNat : Nat) : Int)) = true := by rw [ne_u8, decide_eq_false hc]; rfl
            have HN := flt_yes HM (di_yes H0.out hs hlt his he)
            clear hs hsz1 hc
            go_wp2_with (fail)
            go_quiet (fail)
            go_wp2_with (at_builtin; refine stopQ ?_)
            intro _
            refine wpList_app1 icell 1 icell_len _ rfl _ _ _ rfl w.heap.size 2 i0 (.int .i64 0) 8 Tryz.underlying25 hi hz0 hz1 hz2 rfl (by decide) _ acc rfl (OwnL.alloc (OwnL.below HOX.out (below_drewNQ (Below.refl _ _) _)) _) _ 1 (k : Int) rfl ?_ (by simp [icell, Value.oneCell']) (by omega) (by omega) (by have := hbw.size; simp; omega) ?_
            · intro j u hu; cases j with | zero => (simp [icell] at hu; subst hu; first | exact cell_allocD _ _ _ _ | simp) | succ j => simp [icell] at hu
            intro v' w5 how2 hg2
            go_wp2_with (fail)
            go_roundw
            case rel => exact ⟨k + 1, acc ++ [(k : Int)], by omega, by go_num, by simp; omega, own_grown_below (OwnL.alloc (OwnL.below HOX.out (below_drewNQ (Below.refl _ _) _)) _) ((below_drewNQ hbw _).alloc (by have := hbw.size; simp; omega) _) hg2 (Nat.le_refl _) (by have := hbw.size; simp; omega), how2, HN⟩
            case measure => simp [intOf]; omega
        · have HN := flt_no HM (di_no H0.out hlt fun q' s hs => HQ.out q' s (by have := (List.getElem?_eq_some_iff.1 hs).1; omega) hs)
          go_wp2_with (fail)
          go_roundw
          case rel => exact ⟨k + 1, acc, by omega, by go_num, by omega, hbw, HOX.out, HN⟩
          case measure => simp [intOf]; omega
    · obtain rfl : k = s0.size := by omega
      go_wp2_with (fail)
      go_ret
      exact ⟨_, rfl, by rw [← HM.out]; exact how, hb⟩
theorem sbE_V (s : ByteArray) (l : List Int) (c : Int) : sbV s l c = .tuple #[.string (sbE s l c).1, .int .i64 (sbE s l c).2] := rfl
set_option maxRecDepth 20000 in
set_option maxHeartbeats 8000000 in
theorem slv_i (B : Nat) (e : Evd) (va vb vc vd : Value) (k : Nat) (w : World) (h : EvOwn B w e va vb vc vd) (hn : e.ds.length ≤ 1048576) (hk : ∀ d ∈ e.ds, k < d.secs.length) (hkc : k < e.cr.length) (hcr : e.cr.length ≤ 1048576) (m : Nat) (hm : ∀ d ∈ e.ds, ∀ s ∈ d.secs, s.data.size = m) (hm2 : m ≤ 4096) :
    Calls Tryz.prog 63 #[evV va vb vc vd, .int .i64 k] w fun r w' => r = .returned (.tuple #[.string (slvE e k).1, .bool (slvE e k).2]) ∧ Below w.heap.size w w' := by
  obtain ⟨g, c, u, hvb, hu, hc⟩ := crc_cell h hkc
  have hg := World.block_lt_of_cell? w _ hc
  have HX0 := Lib.hid h
  obtain ⟨A, n, B', kk, C, i, D, j, rfl, hvb', rfl, rfl⟩ := h.shape
  rw [hvb'] at hvb
  obtain rfl : B' = some ⟨g, 0, none⟩ := by injection hvb
  obtain rfl : kk = c := by injection hvb
  subst hvb'
  have HB : Below w.heap.size w (w.alloc (.cells #[.slice A e.ds.length n, .slice (some ⟨g, 0, none⟩) e.cr.length kk, .slice C e.p.length i, .slice D e.q.length j] 28)) := Below.alloc (Below.refl _ _) (Nat.le_refl _) _
  have HR := Lib.hid (rd_i B e _ _ _ _ k (w.alloc (.cells #[.slice A e.ds.length n, .slice (some ⟨g, 0, none⟩) e.cr.length kk, .slice C e.p.length i, .slice D e.q.length j] 28)) (HX0.out.below HB) hn hk)
  have HSZ := Lib.hid (rd_size hm hk)
  have HNO := Lib.hid (fun hh => slv_no (e := e) (k := k) hh)
  have HYE := Lib.hid (fun (s0 : ByteArray) h0 hh => slv_yes (e := e) (k := k) (c := u) (s0 := s0) hu h0 hh)
  have hcd : e.cr.getD k 0 = u := by rw [List.getD_eq_getElem?_getD, hu]; rfl
  have hrl := rdF_len k e.ds
  rw [hcd] at HNO
  generalize rdF k e.ds = R at *
  have hc1 : (w.alloc (.cells #[.slice A e.ds.length n, .slice (some ⟨g, 0, none⟩) e.cr.length kk, .slice C e.p.length i, .slice D e.q.length j] 28)).cell? ⟨w.heap.size, 1, none⟩ = some (.slice (some ⟨g, 0, none⟩) e.cr.length kk) := by simp
  have HC1 := Lib.hid hc1
  have HCC := Lib.hid ((HB.cell (p := ⟨g, k, none⟩) hg).trans hc)
  have hz0 : (w.alloc (.cells #[.slice A e.ds.length n, .slice (some ⟨g, 0, none⟩) e.cr.length kk, .slice C e.p.length i, .slice D e.q.length j] 28)).heap.size = w.heap.size + 1 := by simp
  clear h hc hu hc1 hcd hk hm
  go_enter Tryz.func63, Tryz.ntmps63
  go_wp2_with (fail)
  refine HR.out.mono ?_; rintro r w1 ⟨v1, rfl, ho1, hb1⟩
  have z1 := hb1.size
  have c1 := (hb1.cell (p := ⟨w.heap.size, 1, none⟩) (by rw [hz0]; exact Nat.lt_succ_self _)).trans HC1.out
  have cc := (hb1.cell (p := ⟨g, k, none⟩) (by rw [hz0]; show g < _; omega)).trans HCC.out
  have B1 := HB.trans (hb1.mono (by omega))
  have HO1 := Lib.hid ho1
  obtain ⟨A1, k1, rfl, hA1⟩ := OwnL.shape ho1
  clear ho1 HR
  by_cases hneg : u < 0
  · have HF := Lib.hid (HNO.out (.inl hneg))
    have hd : decide (u < 0) = true := decide_eq_true hneg
    go_wp2_with (fail)
    exact bodyPost_ret (v := .tuple #[.string .empty, .bool false]) (by simp [results, Tryz.results63, go_sem] <;> rfl) rfl ⟨by rw [HF.out], B1⟩
  · have hd : decide (u < 0) = false := decide_eq_false hneg
    by_cases hR : R = []
    · have HF := Lib.hid (HNO.out (.inr hR))
      subst hR
      go_wp2_with (fail)
      exact bodyPost_ret (v := .tuple #[.string .empty, .bool false]) (by simp [results, Tryz.results63, go_sem] <;> rfl) rfl ⟨by rw [HF.out], B1⟩
    · have hl : 0 < R.length := List.length_pos_iff.2 hR
      obtain ⟨s0, hs0⟩ : ∃ s, R[0]? = some s := ⟨R[0], List.getElem?_eq_getElem hl⟩
      have HF := Lib.hid (HYE.out s0 hs0 (by omega))
      have hsz := HSZ.out s0 (List.mem_of_getElem? hs0)
      obtain ⟨g1, rfl, _, hg1⟩ := hA1.resolve_left hR
      have q0 := StringL.at_ HO1.out rfl hs0
      have hne : ((R.length : Int) == 0) = false := by rw [beq_eq_false_iff_ne]; omega
      have HDF := Lib.hid (dif_i _ R _ w1.drew (OwnL.below HO1.out (Below.refl _ _).drew) (by omega) s0.size (fun s h => (HSZ.out s h).trans hsz.symm) (by omega) hR)
      have hfl := flt_len (diB R) s0.size
      have HWB : Hid (∀ w3, Below w1.drew.heap.size w1.drew w3 → Below w1.heap.size w1 w3) := Lib.hid fun w3 hb => (Below.refl _ _).drew.trans hb
      have HG3 : Hid (∀ w3, Below w1.heap.size w1 w3 → w3.cell? ⟨w.heap.size, 1, none⟩ = some (.slice (some ⟨g, 0, none⟩) e.cr.length kk) ∧ w3.cell? ⟨g, k, none⟩ = some (.int .i64 u) ∧ w3.cell? ⟨g1, 0, none⟩ = some (.string s0)) := Lib.hid fun w3 hb => ⟨(hb.cell (p := ⟨w.heap.size, 1, none⟩) (by show w.heap.size < _; omega)).trans c1, (hb.cell (p := ⟨g, k, none⟩) (by show g < _; omega)).trans cc, (hb.cell (p := ⟨g1, 0, none⟩) hg1).trans q0⟩
      generalize fltN (diB R) s0.size = L at *
      clear hs0 hA1 HSZ HNO HYE HC1 HCC
      go_wp2_with (fail)
      go_region_law (go_simp; first | (go_at_call 88; refine HDF.out.mono ?_; rintro r w3 ⟨v3, rfl, ho3, hb3⟩; have HB3 := Lib.hid (HWB.out w3 hb3); have HO3 := Lib.hid ho3; obtain ⟨r0, r1, r2⟩ := HG3.out w3 HB3.out; clear ho3 hb3; dsimp only) | (go_at_call 87; refine (sol_i s0 L v3 u w3 (intsAt_own HO3.out) (by omega) (by omega)).mono ?_; rintro r w4 ⟨rfl, hb4⟩; have HB4 := Lib.hid (HB3.out.trans (hb4.mono HB3.out.size)); clear hb4; rw [sbE_V]; dsimp only))
      all_goals clear r0 r1 r2 c1 cc q0
      all_goals go_wp2_with (fail)
      all_goals exact bodyPost_ret (v := .tuple #[.string (sbE s0 L u).1, .bool ((sbE s0 L u).2 == 0)]) (by simp [results, Tryz.results63, go_sem] <;> rfl) rfl ⟨by rw [HF.out], B1.trans (HB4.out.mono B1.size)⟩
end Go.Proofs.YtddihmpiaemadaaGreatDoor
namespace Go.Proofs.YtddihmpiaemadaaGreatDoor
set_option linter.unusedVariables false
set_option linter.unusedSimpArgs false
open Go.RowKit
theorem strN_at {l : List Nat} (hl : ∀ x ∈ l, x < 256) {i b : Nat} (h : l[i]? = some b) : ∃ hi : i < (strN l).size, ((strN l)[i]).toNat = b := by
  have hi : i < (strN l).size := by rw [strN_size]; exact (List.getElem?_eq_some_iff.1 h).1
  refine ⟨hi, ?_⟩
  have := bts_get hi
  rw [bts_strN hl, h] at this
  exact (Option.some.inj this).symm
theorem voteV_at {D : List ByteArray} {i : Nat} (hi : i < voteN D) : (voteV D)[i]? = some (byteV D i) := by
  unfold voteN at hi
  unfold voteV; rw [List.getElem?_map, List.getElem?_range hi]; rfl
theorem voteV_lt (D : List ByteArray) : ∀ x ∈ voteV D, x < 256 := by
  intro x hx
  unfold voteV at hx
  obtain ⟨i, _, rfl⟩ := List.mem_map.1 hx
  exact byteV_lt D i
theorem voteV_len (D : List ByteArray) : (voteV D).length = voteN D := by unfold voteV voteN; simp
theorem cb_yes {D : List ByteArray} {i k b : Nat} {s : ByteArray} (hs : D[k]? = some s) (hi : i < s.size) (hb : b < 256) (h : s[i].toNat = b) : cntBk D i (k + 1) b = cntBk D i k b + 1 := by
  rw [cnt_next hs hi b hb, if_pos h.symm, h]
theorem cb_no {D : List ByteArray} {i k b : Nat} {s : ByteArray} (hs : D[k]? = some s) (hi : i < s.size) (hb : b < 256) (h : ¬ s[i].toNat = b) : cntBk D i (k + 1) b = cntBk D i k b := by
  rw [cnt_next hs hi b hb, if_neg (fun e => h e.symm)]
theorem cb_end (D : List ByteArray) (i b : Nat) : cntBk D i D.length b = cntBV D i b := by unfold cntBk; rw [List.take_length]
theorem maj_yes {D : List ByteArray} {i : Nat} (h : D.length < 2 * cntBV D i (byteV D i)) : majB D i = true := by unfold majB; exact decide_eq_true h
theorem maj_no {D : List ByteArray} {i : Nat} (h : ¬ D.length < 2 * cntBV D i (byteV D i)) : majB D i = false := by unfold majB; exact decide_eq_false h
theorem u8_eq {a b : Nat} : (((a : Int)) == ((b : Int))) = decide (a = b) := by
  by_cases h : a = b
  · subst h; simp
  · rw [decide_eq_false h, beq_eq_false_iff_ne]; omega
set_option maxRecDepth 20000 in
set_option maxHeartbeats 4000000 in
theorem votd_i (B : Nat) (D : List ByteArray) (v : Value) (w : World) (h : StringL B w v D) (hn : D.length ≤ 1048576) (n : Nat) (hs : ∀ s ∈ D, s.size = n) (hn2 : n ≤ 1048576) :
    Calls Tryz.prog 61 #[v] w fun r w' => r = .returned (.tuple #[.string (voteE D).1, .bool (voteE D).2]) ∧ Below w.heap.size w w' := by
  by_cases h2 : D.length < 2
  · have HF := Lib.hid (vo_short h2)
    obtain ⟨A, c, rfl, hA⟩ := OwnL.shape h
    have hd : decide ((D.length : Int) < 2) = true := decide_eq_true (by omega)
    clear hA h
    go_enter Tryz.func61, Tryz.ntmps61
    go_wp2
    exact bodyPost_ret (v := .tuple #[.string .empty, .bool false]) (by simp [results, Tryz.results61, go_sem] <;> rfl) rfl ⟨by rw [HF.out], Below.refl _ _⟩
  · have h0 : D ≠ [] := by intro e; rw [e] at h2; simp at h2
    have HV := Lib.hid (vote_i B D v w h hn h0 n hs hn2)
    obtain ⟨A, c, rfl, hA⟩ := OwnL.shape h
    obtain ⟨g, rfl, _, hg⟩ := hA.resolve_left h0
    have HC := Lib.hid (fun k s (hk : D[k]? = some s) => StringL.at_ h rfl hk)
    have hl : 0 < D.length := List.length_pos_iff.2 h0
    obtain ⟨s0, hs0⟩ : ∃ s, D[0]? = some s := ⟨D[0], List.getElem?_eq_getElem hl⟩
    have hvn : voteN D = n := by unfold voteN; rw [List.getD_eq_getElem?_getD, hs0]; exact hs s0 (List.mem_of_getElem? hs0)
    have HY := Lib.hid (fun hh => vo_yes (D := D) (by omega) hh)
    have HN := Lib.hid (fun (i : Nat) (hi : i < voteN D) (h : majB D i = false) => vo_no hi h)
    have HA := Lib.hid (fun (i : Nat) (hi : i < voteN D) => strN_at (voteV_lt D) (voteV_at hi))
    have hsz : (strN (voteV D)).size = n := by rw [strN_size, voteV_len, hvn]
    have HS := Lib.hid hs
    have hd : decide ((D.length : Int) < 2) = false := decide_eq_false (by omega)
    generalize strN (voteV D) = S at *
    rw [hvn] at HY HN HA
    clear hA h h0 hs0 hs hvn
    subst hsz
    go_enter Tryz.func61, Tryz.ntmps61
    go_wp2_with (fail)
    refine HV.out.mono ?_; rintro r w1 ⟨rfl, hb1⟩
    have hz1 := hb1.size
    go_wp2_with (fail)
    go_loopw [16] (fun i wr => ∃ k : Nat, k ≤ S.size ∧ i = .int .i64 k ∧ Below w.heap.size w wr ∧ Hid (∀ j, j < k → majB D j = true)) (fun i _ => S.size - (intOf i).toNat)
    case atStart => exact ⟨0, by omega, rfl, hb1, Lib.hid fun j hj => by omega⟩
    case round =>
      clear hb1 hz1
      obtain ⟨i, hi, rfl, hb1, HM⟩ := hrel
      by_cases hlt : i < S.size
      · obtain ⟨hiS, hSb⟩ := HA.out i hlt
        have hb256 := byteV_lt D i
        go_wp2_with (fail)
        go_loopw [21, 6] (fun j m wx => ∃ k y : Nat, k ≤ D.length ∧ j = .int .i64 k ∧ m = .int .i64 y ∧ y ≤ k ∧ Below w.heap.size w wx ∧ Hid (cntBk D i k (byteV D i) = y)) (fun j _ _ => D.length - (intOf j).toNat)
        case atStart => exact ⟨0, 0, by omega, rfl, rfl, by omega, hb1, Lib.hid (by unfold cntBk cntBV; simp)⟩
        case round =>
          clear hb1
          obtain ⟨k, y, hk, rfl, rfl, hy, hb1, HK⟩ := hrel
          by_cases hltk : k < D.length
          · obtain ⟨s, hs⟩ : ∃ s, D[k]? = some s := ⟨D[k], List.getElem?_eq_getElem hltk⟩
            have q0 := (hb1.cell (p := ⟨g, k, none⟩) hg).trans (HC.out k s hs)
            have hsz1 := HS.out s (List.mem_of_getElem? hs)
            have his : i < s.size := by omega
            by_cases hc : s[i].toNat = byteV D i
            · have HN2 : Hid (cntBk D i (k + 1) (byteV D i) = y + 1) := Lib.hid (by rw [cb_yes hs his hb256 hc, HK.out])
              have he : (((s[i].toNat : Nat) : Int) == ((S[i].toNat : Nat) : Int)) = true := by rw [u8_eq, hSb]; exact decide_eq_true hc
              clear hs hsz1 hc hSb
              go_wp2_with (fail)
              go_quiet (fail)
              go_wp2_with (fail)
              go_roundw
              case rel => exact ⟨k + 1, y + 1, by omega, by go_num, by go_num, by omega, below_drewNQ hb1 _, HN2⟩
              case measure => simp [intOf]; omega
            · have HN2 : Hid (cntBk D i (k + 1) (byteV D i) = y) := Lib.hid (by rw [cb_no hs his hb256 hc, HK.out])
              have he : (((s[i].toNat : Nat) : Int) == ((S[i].toNat : Nat) : Int)) = false := by rw [u8_eq, hSb]; exact decide_eq_false hc
              clear hs hsz1 hc hSb
              go_wp2_with (fail)
              go_quiet (fail)
              go_wp2_with (fail)
              go_roundw
              case rel => exact ⟨k + 1, y, by omega, by go_num, rfl, by omega, below_drewNQ hb1 _, HN2⟩
              case measure => simp [intOf]; omega
          · obtain rfl : k = D.length := by omega
            have HX : Hid (cntBV D i (byteV D i) = y) := Lib.hid (by rw [← cb_end]; exact HK.out)
            clear HK hSb
            by_cases hm : D.length < 2 * y
            · have HM2 : Hid (∀ j, j < i + 1 → majB D j = true) := Lib.hid fun j hj => by
                by_cases e : j = i
                · subst e; exact maj_yes (by rw [HX.out]; exact hm)
                · exact HM.out j (by omega)
              have hd1 : decide (2 * (y : Int) ≤ (D.length : Int)) = false := decide_eq_false (by omega)
              go_wp2_with (fail)
              go_roundw
              case rel => exact ⟨i + 1, by omega, by go_num, hb1, HM2⟩
              case measure => simp [intOf]; omega
            · have HF := Lib.hid (HN.out i hlt (maj_no (by rw [HX.out]; exact hm)))
              have hd1 : decide (2 * (y : Int) ≤ (D.length : Int)) = true := decide_eq_true (by omega)
              go_wp2_with (fail)
              exact bodyPost_ret (v := .tuple #[.string .empty, .bool false]) (by simp [results, Tryz.results61, go_sem] <;> rfl) rfl ⟨by rw [HF.out], hb1⟩
      · have HF := Lib.hid (HY.out (fun j hj => HM.out j (by omega)))
        go_wp2_with (fail)
        exact bodyPost_ret (v := .tuple #[.string S, .bool true]) (by simp [results, Tryz.results61, go_sem] <;> rfl) rfl ⟨by rw [HF.out], hb1⟩
def mosR (D : List ByteArray) (i : Nat) : Nat := bif majB D i then byteV D i else 0
end Go.Proofs.YtddihmpiaemadaaGreatDoor
