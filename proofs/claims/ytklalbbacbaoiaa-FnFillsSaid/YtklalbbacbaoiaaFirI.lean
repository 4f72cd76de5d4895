/- FirstFill, impl: the walk. -/
import Derived.Test.YtklalbbacbaoiaaFilI
namespace Go.Proofs.Ytklalbbacbaoiaa
set_option linter.unusedVariables false
open Go.RowKit
def fiE (s : ByteArray) (l : List Int) (c : Int) : ByteArray × Int := if unkOk s l c then (match redS (rowsOf s (l.map Int.toNat) c.toNat) with | none => (.empty, 3) | some b => (strN (fillN (bts s) (l.map Int.toNat) (comp low (leastR b l.length) 0).testBit), 0)) else (.empty, 1)
def fiV (s : ByteArray) (l : List Int) (c : Int) : Value := .tuple #[.string (fiE s l c).1, .int .i64 (fiE s l c).2]
theorem fiV_no {s : ByteArray} {l : List Int} {c : Int} (h : unkOk s l c = false) : fiV s l c = .tuple #[.string .empty, .int .i64 1] := by unfold fiV fiE; rw [h]; rfl
theorem fiV_none {s : ByteArray} {u : List Nat} {c : Nat} (h : unkOk s (intsN u) c = true) (hx : redS (rowsOf s u c) = none) : fiV s (intsN u) c = .tuple #[.string .empty, .int .i64 3] := by unfold fiV fiE; rw [h, intsN_back, Int.toNat_natCast, hx]; rfl
theorem fiV_some {s : ByteArray} {u : List Nat} {c : Nat} {b : List Rw} (h : unkOk s (intsN u) c = true) (hx : redS (rowsOf s u c) = some b) : fiV s (intsN u) c = .tuple #[.string (strN (fillN (bts s) u (comp low (leastR b u.length) 0).testBit)), .int .i64 0] := by unfold fiV fiE; rw [h, intsN_back, Int.toNat_natCast, hx, intsN_len]; rfl
theorem totN_one (n : Nat) : totN 1 n = 1 := by
  unfold totN; split
  · rfl
  · have := Nat.two_pow_pos n; omega
theorem outI_one (l unk : List Nat) (rows : List Rw) : outI l unk rows 1 = [strN (fillOf l unk top rows (freeU top rows unk.length).reverse 0)] := rfl
set_option maxRecDepth 20000 in
set_option maxHeartbeats 2000000 in
theorem fir_i (s : ByteArray) (l : List Int) (v : Value) (c : Int) (w : World) (h : IntsAt w v l) (hm : l.length ≤ 1048576) (hs : s.size ≤ 1048576) :
    Calls Try.prog 37 #[.string s, v, .int .i64 c] w fun e w' => e = .returned (fiV s l c) ∧ Below w.heap.size w w' := by
  have HA := Lib.hid (ask_i s l v c w h hm hs)
  cases hok : unkOk s l c
  · have HF := Lib.hid (fiV_no hok)
    rw [hok] at HA
    obtain ⟨A, cA, rfl, _⟩ := h
    go_enter Try.func37, Try.ntmps37
    go_wp2_with (fail)
    refine HA.out.mono ?_; rintro e w1 ⟨rfl, rfl⟩
    go_wp2
    rw [HF.out]
    exact bodyPost_ret (by simp [results, Try.results37, go_sem]; try rfl) rfl ⟨rfl, Below.refl _ _⟩
  · rw [hok] at HA
    obtain ⟨u, k, rfl, rfl, hk, hs1, hs2, hul, hub, hur⟩ := unk_nat hok
    have hok' : unkOk s (intsN u) (k : Int) = true := hok
    have HX := Lib.hid (fills_i s u v k 1 w h hub (hur.imp fun h => Nat.ne_of_lt h) hs2 hul hk (by omega))
    unfold filQ at HX
    obtain ⟨A, cA, hv, _⟩ := h
    rw [show (u.map fun i : Nat => (i : Int)).length = u.length by simp] at hv
    subst hv
    have hbo := red_both piv_top hul (rowsR_lt s.size u (restOf s u k))
    have he2 : rowsR s.size u (restOf s u k) = rowsOf s u k := rfl
    rw [he2] at hbo
    clear hok
    rcases hbo with ⟨h1, h2, _⟩ | ⟨a, b, h1, h2, hra, hrb, _, hua, hub2, hsa, hsb, hab, hal⟩
    · have HF : Hid (fiV s (u.map fun i : Nat => (i : Int)) (k : Int) = _) := Lib.hid (fiV_none hok' h2)
      rw [h1] at HX
      clear h1 h2 he2
      go_enter Try.func37, Try.ntmps37
      go_wp2_with (fail)
      refine HA.out.mono ?_; rintro e w1 ⟨rfl, rfl⟩
      go_wp2_with (fail)
      refine HX.out.mono ?_; rintro e w2 ⟨rfl, hb2⟩
      go_wp2
      rw [HF.out]
      exact bodyPost_ret (by simp [results, Try.results37, go_sem]; try rfl) rfl ⟨rfl, hb2⟩
    · have HF : Hid (fiV s (u.map fun i : Nat => (i : Int)) (k : Int) = _) := Lib.hid (fiV_some hok' h2)
      have hls := least_same (l := bts s) hul hra hrb hua hub2 (fun x => (hsa x).trans (hsb x).symm)
      rw [h1] at HX
      simp only [totN_one, outI_one, hls] at HX
      generalize strN (fillN (bts s) u (comp low (leastR b u.length) 0).testBit) = sr at *
      generalize decide ((freeU top a u.length).length < 62 ∧ 2 ^ (freeU top a u.length).length ≤ 1) = bb at *
      clear h1 h2 he2 hab hls hra hrb hsa hsb hua hub2
      go_enter Try.func37, Try.ntmps37
      go_wp2_with (fail)
      refine HA.out.mono ?_; rintro e w1 ⟨rfl, rfl⟩
      go_wp2_with (fail)
      refine HX.out.mono ?_; rintro e w2 ⟨v2, rfl, o2, hb2⟩
      obtain ⟨A2, c2, rfl, hA2⟩ := OwnL.shape o2
      obtain ⟨g2, rfl, _, _⟩ := hA2.resolve_left (by simp)
      have p0 := StringL.at_ (k := 0) o2 rfl rfl
      clear o2 HX
      go_wp2
      rw [HF.out]
      exact bodyPost_ret (by simp [results, Try.results37, go_sem]; try rfl) rfl ⟨rfl, hb2⟩
end Go.Proofs.Ytklalbbacbaoiaa
