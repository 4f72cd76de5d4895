/- AllFills, spec: the walk. -/
import Derived.Test.YtklalbbacbaoiaaPutW
import Derived.Test.YtklalbbacbaoiaaAllI
namespace Go.Proofs.Ytklalbbacbaoiaa
set_option linter.unusedVariables false
open Go.RowKit
theorem selK_or {fr : List Nat} {n i q : Nat} (h : fr[i]? = some q) : selK fr n (i + 1) = selK fr n i ||| (if n.testBit i then 2 ^ q else 0) := by
  cases hb : n.testBit i
  · rw [selK_no hb]; simp
  · rw [selK_yes h hb]; simp
theorem freeU_get {p : Nat → Nat} {rows : List Rw} {u i q : Nat} (h : (freeU p rows u)[i]? = some q) : q < u := by
  have := List.mem_of_getElem? h
  exact ((freU p rows u).mem q).1 this |>.1
theorem fillOf_lt {l u : List Nat} {rows : List Rw} {fr : List Nat} {n : Nat} (h : ∀ y ∈ l, y < 256) : ∀ y ∈ fillOf l u low rows fr n, y < 256 := fillN_lt h
theorem allS_lt {l u : List Nat} {rows : List Rw} (h : ∀ y ∈ l, y < 256) (n : Nat) : ∀ F ∈ allS l u rows n, ∀ y ∈ F, y < 256 := fun F hF => by
  obtain ⟨x, _, rfl⟩ := (allS_mem l u rows n F).1 hF
  exact fillOf_lt h
theorem i64_bit2 (x i : Nat) (hx : x < 4611686018427387904) : bits .and .i64 ((x : Int) / 2 ^ min i 64) 1 = bi (x.testBit i) := by
  by_cases h : i ≤ 64
  · rw [Nat.min_eq_left h]; exact i64_bit x i (by omega)
  · rw [Nat.min_eq_right (by omega), i64_bit x 64 (by omega)]
    have p : 2 ^ 62 ≤ 2 ^ i := Nat.pow_le_pow_right (by decide) (by omega)
    rw [Nat.testBit_lt_two_pow (Nat.lt_of_lt_of_le hx p), Nat.testBit_lt_two_pow (Nat.lt_of_lt_of_le hx (show 4611686018427387904 ≤ 2 ^ 64 by decide))]
set_option maxRecDepth 20000 in
set_option maxHeartbeats 4000000 in
theorem all_s (s : ByteArray) (l : List Int) (v : Value) (c m : Int) (w : World) (h : IntsAt w v l) (hm : l.length ≤ 1048576) (hs : s.size ≤ 1048576) :
    Calls Try.prog 38 #[.string s, v, .int .i64 c, .int .i64 m] w fun e w' => RStringS.retI w (alE s l c m).1 (alE s l c m).2 e w' := by
  have HIN := Lib.hid (fun W => in_s m 1 64 W)
  cases hok : unkOk s l c
  · have HF : Hid (alE s l c m = ([], 1)) := Lib.hid (by unfold alE; rw [hok]; rfl)
    have HS := Lib.hid (solved_no s l v c w h hm hs hok)
    obtain ⟨A, cA, rfl, _⟩ := h
    go_enter Try.func38, Try.ntmps38
    go_wp2_with (fail)
    refine HS.out.mono ?_; rintro e w1 ⟨rfl, hb1⟩
    go_wp2
    exact bodyPost_ret (v := .tuple #[.slice none 0 0, .int .i64 1]) (by simp [results, Try.results38, go_sem]) rfl ⟨_, by rw [HF.out], by rw [HF.out]; exact ⟨OwnL.of_nil, by simp [Value.ownBlock]⟩, hb1⟩
  obtain ⟨u, k, rfl, rfl, hk, hs1, hs2, hul, hub, hur⟩ := unk_nat hok
  have hok' : unkOk s (intsN u) (k : Int) = true := hok
  have HS := Lib.hid (solved_s s u v k w h hok' hub hs2 hul hk)
  have HI := Lib.hid h
  obtain ⟨A, cA, hv, _⟩ := h
  rw [show (u.map fun i : Nat => (i : Int)).length = u.length by simp] at hv
  subst hv
  unfold solQ at HS
  have hrl : ∀ e ∈ rowsOf s u k, e.m < 2 ^ u.length := rowsR_lt s.size u (restOf s u k)
  cases hin : inB m 1 64
  · have HF : Hid (alE s (u.map fun i : Nat => (i : Int)) (k : Int) m = ([], 2)) := Lib.hid (by unfold alE; rw [hok, hin]; rfl)
    rw [hin] at HIN
    clear hrl hok
    generalize redS (rowsOf s u k) = X at *
    have hcd : (cdO X == 1) = false := by cases X <;> rfl
    generalize cdO X = cd at *
    generalize X.getD [] = XD at *
    go_enter Try.func38, Try.ntmps38
    go_wp2_with (fail)
    refine HS.out.mono ?_; rintro e w1 ⟨v1, rfl, o1, hb1⟩
    obtain ⟨A1, c1, rfl, _⟩ := OwnL.shape o1
    go_wp2_with (fail)
    refine (HIN.out _).mono ?_; rintro e w2 ⟨rfl, rfl⟩
    go_wp2
    exact bodyPost_ret (v := .tuple #[.slice none 0 0, .int .i64 2]) (by simp [results, Try.results38, go_sem]) rfl ⟨_, by rw [HF.out], by rw [HF.out]; exact ⟨OwnL.of_nil, by simp [Value.ownBlock]⟩, hb1⟩
  rw [hin] at HIN
  have hmb := inB_yes hin
  obtain ⟨mm, rfl⟩ : ∃ mm : Nat, m = mm := ⟨m.toNat, by omega⟩
  have HE : Hid (alE s (u.map fun i : Nat => (i : Int)) (k : Int) (mm : Int) = _) := Lib.hid (alE_yes hok' hin)
  have hr16 : (rowsOf s u k).length = 16 := rowsOf_len _ _ _
  clear hok
  generalize hX : redS (rowsOf s u k) = X at *
  have hbo := redS_ok hul hrl hX
  clear hrl hX
  cases X with
  | none =>
    have HF : Hid (alE s (u.map fun i : Nat => (i : Int)) (k : Int) (mm : Int) = ([], 3)) := HE
    have hcd : cdO none = 3 := rfl
    rw [hcd] at HS
    clear hbo
    go_enter Try.func38, Try.ntmps38
    go_wp2_with (fail)
    refine HS.out.mono ?_; rintro e w1 ⟨v1, rfl, o1, hb1⟩
    obtain ⟨A1, c1, rfl, _⟩ := OwnL.shape o1
    go_wp2_with (fail)
    refine (HIN.out _).mono ?_; rintro e w2 ⟨rfl, rfl⟩
    go_wp2
    exact bodyPost_ret (v := .tuple #[.slice none 0 0, .int .i64 3]) (by simp [results, Try.results38, go_sem]) rfl ⟨_, by rw [HF.out], by rw [HF.out]; exact ⟨OwnL.of_nil, by simp [Value.ownBlock]⟩, hb1⟩
  | some b =>
    obtain ⟨k1, _, k3, _, k5⟩ := hbo
    have hb16 : b.length ≤ 16 := by rw [← hr16]; exact k5
    have hbm : ∀ e ∈ b, e.m ≠ 0 ∧ e.m < 2 ^ u.length := fun e he => ⟨fun e0 => (by have := k1.on e he; rw [e0] at this; simp at this), k3 e he⟩
    have HFR := Lib.hid (fun rv W (hr : RowsAt .u64 W rv b) => free2_s b rv u.length W hr (fun e he => ⟨(hbm e he).1, k1.lt e he⟩) hul (by omega))
    have HFL := Lib.hid (fun W (hb : Below w.heap.size w W) rv (hr : RowsAt .u64 W rv b) V0 (hV : V0 < 18446744073709551616) => fill_s s u _ rv b V0 W (HI.out.below hb) hr hub hs2 hul hbm hV (by omega))
    have hfl := freeU_len low b u.length
    have HFG := Lib.hid (fun i q (h : (freeU low b u.length)[i]? = some q) => freeU_get h)
    have HSL := Lib.hid (fun n i (hi : i ≤ (freeU low b u.length).length) => selK_lt (fr := freeU low b u.length) (n := n) (fun q hq => by have := ((freU low b u.length).mem q).1 hq; omega) hi)
    have HAL := Lib.hid (fun n => allS_lt (l := bts s) (u := u) (rows := b) bts_lt n)
    have HAN := Lib.hid (fun n => allS_len (bts s) u b n)
    have HFLT := Lib.hid (fun n => fillOf_lt (l := bts s) (u := u) (rows := b) (fr := freeU low b u.length) (n := n) bts_lt)
    have HAS : Hid (∀ n, allS (bts s) u b (n + 1) = putS (allS (bts s) u b n) (fillOf (bts s) u low b (freeU low b u.length) n)) := Lib.hid (fun n => rfl)
    have HFO : Hid (∀ n, fillOf (bts s) u low b (freeU low b u.length) n = fillN (bts s) u (comp low b (selK (freeU low b u.length) n (freeU low b u.length).length)).testBit) := Lib.hid (fun n => rfl)
    have HY := Lib.hid (fun (h : 2 ^ (freeU low b u.length).length ≤ mm) => alX_yes (s := s) (u := u) (m := mm) (b := b) h)
    have HN := Lib.hid (fun (h : ¬ 2 ^ (freeU low b u.length).length ≤ mm) => alX_no (s := s) (u := u) (m := mm) (b := b) h)
    have hcd : cdO (some b) = 0 := rfl
    rw [hcd] at HS
    simp only [Option.getD_some] at HS
    clear k1 k3 k5 hbm hr16
    generalize freeU low b u.length = fr at *
    have hpw := fun (h : fr.length < 62) => wrap_pow_i fr.length h
    have hp64 := fun (h : fr.length ≤ 6) => (Nat.pow_le_pow_right (by decide) h : 2 ^ fr.length ≤ 2 ^ 6)
    go_enter Try.func38, Try.ntmps38
    go_wp2_with (fail)
    refine HS.out.mono ?_; rintro e w1 ⟨v1, rfl, o1, hb1⟩
    have HRA := Lib.hid (RowsAt.own o1)
    obtain ⟨A1, c1, rfl, _⟩ := OwnL.shape o1
    clear o1 HS
    go_wp2_with (fail)
    refine (HIN.out _).mono ?_; rintro e w2 ⟨rfl, rfl⟩
    go_wp2_with (fail)
    refine (HFR.out _ _ HRA.out).mono ?_; rintro e w2 ⟨v2, rfl, o2, hb2⟩
    have z1 := hb1.size
    have hB2 := hb1.trans (hb2.mono z1)
    have HR2 := Lib.hid (HRA.out.below hb2)
    have HO2 := Lib.hid o2
    obtain ⟨A2, c2, hv2, hA2⟩ := OwnL.shape o2
    rw [intsN_len] at hv2
    subst hv2
    clear o2 HRA HFR
    by_cases hp : 2 ^ fr.length ≤ mm
    · have h6 : fr.length ≤ 6 := by
        rcases Nat.lt_or_ge 6 fr.length with h | h
        · have : 2 ^ 7 ≤ 2 ^ fr.length := Nat.pow_le_pow_right (by decide) h
          omega
        · exact h
      have hwp := hpw (by omega)
      have hwp2 : IntKind.i64.wrap (2 ^ min fr.length 64) = ((2 ^ fr.length : Nat) : Int) := by rw [Nat.min_eq_left (by omega)]; exact hwp
      have hpl : 2 ^ fr.length ≤ 64 := hp64 h6
      rw [HY.out hp] at HE
      generalize hP : 2 ^ fr.length = P at *
      have d1 : decide ((mm : Int) < (P : Int)) = false := decide_eq_false (by omega)
      have d2 : decide (mm < P) = false := decide_eq_false (by omega)
      have hz2 := hB2.size
      have HT0 : Hid (StringL w.heap.size (w2.alloc (.cells #[] 9)) (.slice (some ⟨w2.heap.size, 0, none⟩) 0 0) ((allS (bts s) u b 0).map strN)) := Lib.hid (OwnL.of_empty w2 hz2)
      clear hP hp hpw hp64 HY HN
      go_wp2_with (fail)
      go_loopw [14, 13] (fun i y wr => ∃ (x g c : Nat), x ≤ P ∧ i = .int .i64 x ∧ y = .slice (some ⟨g, 0, none⟩) x c ∧ Below w2.heap.size w2 wr ∧ Hid (StringL w.heap.size wr (.slice (some ⟨g, 0, none⟩) x c) ((allS (bts s) u b x).map strN))) (fun i _ _ => P - (intOf i).toNat)
      case atStart => exact ⟨0, w2.heap.size, 0, by omega, rfl, rfl, (by repeat (first | exact Below.refl _ _ | refine Below.alloc ?_ (by first | omega | (simp; done) | (simp; omega)) _ | apply Below.drew | apply below_drewN | refine Below.setCell ?_ (by first | omega | (simp; done) | (simp; omega)) _ | refine Below.trans ?_ (Below.mono (by assumption) (by first | omega | (simp; done) | (simp; omega))))), HT0⟩
      case round =>
        clear HT0
        obtain ⟨x, g, c, hx, rfl, rfl, hb, HT⟩ := hrel
        have zr := hb.size
        by_cases hlt : x < P
        · have hxs : x < 4611686018427387904 := by omega
          have HA := Lib.hid (HAS.out x)
          have HF := Lib.hid (HFO.out x)
          have hal := HAN.out x
          have HALx := Lib.hid (HAL.out x)
          have HFLTx := Lib.hid (HFLT.out x)
          generalize fillOf (bts s) u low b fr x = F at *
          generalize hAx : allS (bts s) u b x = AX at *
          have HAX := Lib.hid hAx
          clear hAx
          go_wp2
          go_loop [16, 15] (fun i y => ∃ j : Nat, j ≤ fr.length ∧ i = .int .i64 j ∧ y = .int .u64 (selK fr x j : Nat)) (fun i _ => fr.length - (intOf i).toNat)
          case atStart => exact ⟨0, by omega, rfl, rfl⟩
          case round =>
            obtain ⟨j, hj, rfl, rfl⟩ := hrel
            by_cases hltj : j < fr.length
            · obtain ⟨q, hq⟩ : ∃ q, fr[j]? = some q := ⟨fr[j], List.getElem?_eq_getElem hltj⟩
              obtain ⟨gf, rfl, hgf1, hgf2⟩ := hA2.resolve_left (by intro h0; have := congrArg List.length h0; rw [intsN_len] at this; simp only [List.length_nil] at this; omega)
              have q0 : wr.cell? ⟨gf, j, none⟩ = some (.int .i64 (q : Int)) := by
                have h1 := OwnL.cell icell_len (l := intsN fr) (g := gf) (c := c2) (by rw [intsN_len]; exact HO2.out) (intsN_get hq) (j := 0) rfl
                rw [Nat.mul_one, Nat.add_zero] at h1
                exact (hb.cell (p := ⟨gf, j, none⟩) hgf2).trans h1
              have hq64 : q < 64 := Nat.lt_of_lt_of_le (HFG.out j q hq) hul
              have hbv := i64_bit x j (by omega)
              have hbv2 := i64_bit2 x j hxs
              have hwb := bi_wrap_u (x.testBit j)
              have hsh := bi_shl (x.testBit j) q hq64
              have hsh2 : IntKind.u64.wrap (bi (x.testBit j) * 2 ^ min q 64) = ((if x.testBit j then 2 ^ q else 0 : Nat) : Int) := by rw [Nat.min_eq_left (by omega)]; exact hsh
              have hor := u64_or_nat (selK fr x j) (if x.testBit j then 2 ^ q else 0) (HSL.out x j hj) (by split <;> first | exact Nat.lt_of_lt_of_le (Nat.pow_lt_pow_right (by omega) hq64) (by decide) | omega)
              have HSN : Hid (selK fr x (j + 1) = selK fr x j ||| (if x.testBit j then 2 ^ q else 0)) := Lib.hid (selK_or hq)
              generalize selK fr x j = sk at *
              generalize (if x.testBit j then 2 ^ q else 0) = pw at *
              generalize bi (x.testBit j) = bj at *
              clear hq
              go_wp2
              go_round
              case rel => exact ⟨j + 1, by omega, by go_num, by rw [HSN.out]⟩
              case measure => simp [intOf]; omega
            · obtain rfl : j = fr.length := by omega
              have hsl := HSL.out x fr.length (Nat.le_refl _)
              have HB2 := Lib.hid (hB2.trans (hb.mono hz2))
              have HRr := Lib.hid (HR2.out.below hb)
              generalize selK fr x fr.length = V0 at *
              go_wp2_with (fail)
              refine (HFL.out _ HB2.out _ HRr.out _ hsl).mono ?_; rintro e w4 ⟨rfl, hb4⟩
              rw [← HF.out]
              have HT4 := Lib.hid (OwnL.below HT.out hb4)
              have hPU := put_s w.heap.size g c AX F w4 (by rw [hal]; exact HT4.out) HALx.out HFLTx.out (by omega)
              rw [hal] at hPU
              have HPU := Lib.hid hPU
              clear hPU
              go_wp2_with (fail)
              refine HPU.out.mono ?_; rintro e w5 ⟨v5, rfl, o5, hb5⟩
              rw [← HA.out] at o5
              have hl5 : ((allS (bts s) u b (x + 1)).map strN).length = x + 1 := by rw [List.length_map, HAN.out]
              obtain ⟨A5, c5, hv5, hA5⟩ := OwnL.shape o5
              obtain ⟨g5, rfl, _, _⟩ := hA5.resolve_left (by intro h0; rw [h0] at hl5; simp at hl5)
              rw [hl5] at hv5
              subst hv5
              have z4 := hb4.size
              have hbe : Below w2.heap.size w2 w5 := hb.trans ((hb4.trans (hb5.mono z4)).mono zr)
              have HO5 := Lib.hid (OwnL.base (B' := w.heap.size) o5 (by omega))
              clear o5 hA5 hl5
              go_wp2
              go_roundw
              case rel => exact ⟨x + 1, g5, c5, by omega, by go_num, by first | rfl | simp, hbe, HO5⟩
              case measure => simp [intOf]; omega
        · obtain rfl : x = P := by omega
          go_wp2
          exact bodyPost_ret (v := .tuple #[.slice (some ⟨g, 0, none⟩) x c, .int .i64 0]) (by simp [results, Try.results38, go_sem]) rfl ⟨_, by rw [HE.out], by rw [HE.out]; exact ⟨HT.out, fun g hg => (World.ownsRow.lt HT.out g hg).2⟩, hB2.trans (hb.mono hz2)⟩
    · rw [HN.out hp] at HE
      by_cases h6 : 6 < fr.length
      · have d1 : decide ((6 : Int) < (fr.length : Int)) = true := decide_eq_true (by omega)
        have d2 : decide (6 < fr.length) = true := decide_eq_true h6
        clear hp hpw hp64 HY HN
        go_wp2_with (fail)
        exact bodyPost_ret (v := .tuple #[.slice none 0 0, .int .i64 5]) (by simp [results, Try.results38, go_sem]) rfl ⟨_, by rw [HE.out], by rw [HE.out]; exact ⟨OwnL.of_nil, by simp [Value.ownBlock]⟩, hB2⟩
      · have hwp := hpw (by omega)
        have hwp2 : IntKind.i64.wrap (2 ^ min fr.length 64) = ((2 ^ fr.length : Nat) : Int) := by rw [Nat.min_eq_left (by omega)]; exact hwp
        generalize hP : 2 ^ fr.length = P at *
        have d1 : decide ((mm : Int) < (P : Int)) = true := decide_eq_true (by omega)
        have d2 : decide (mm < P) = true := decide_eq_true (by omega)
        have d3 : decide (6 < fr.length) = false := decide_eq_false h6
        clear hP hp hpw hp64 HY HN
        go_wp2_with (fail)
        exact bodyPost_ret (v := .tuple #[.slice none 0 0, .int .i64 5]) (by simp [results, Try.results38, go_sem]) rfl ⟨_, by rw [HE.out], by rw [HE.out]; exact ⟨OwnL.of_nil, by simp [Value.ownBlock]⟩, hB2⟩
end Go.Proofs.Ytklalbbacbaoiaa
