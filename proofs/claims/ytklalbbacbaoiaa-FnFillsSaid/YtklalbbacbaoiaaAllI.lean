/- AllFills, impl: the walk. -/
import Derived.Test.YtklalbbacbaoiaaFirI
namespace Go.Proofs.Ytklalbbacbaoiaa
set_option linter.unusedVariables false
open Go.RowKit
def alX (s : ByteArray) (u : List Nat) (m : Nat) (X : Option (List Rw)) : List ByteArray × Int := match X with
  | none => ([], 3)
  | some b => if 2 ^ (freeU low b u.length).length ≤ m then ((allS (bts s) u b (2 ^ (freeU low b u.length).length)).map strN, 0) else ([], 5)
def alE (s : ByteArray) (l : List Int) (c m : Int) : List ByteArray × Int := if unkOk s l c then (if inB m 1 64 then alX s (l.map Int.toNat) m.toNat (redS (rowsOf s (l.map Int.toNat) c.toNat)) else ([], 2)) else ([], 1)
theorem alE_yes {s : ByteArray} {u : List Nat} {c m : Nat} (h : unkOk s (intsN u) c = true) (hm : inB (m : Int) 1 64 = true) : alE s (intsN u) c m = alX s u m (redS (rowsOf s u c)) := by
  unfold alE; rw [if_pos h, if_pos hm, intsN_back, Int.toNat_natCast, Int.toNat_natCast]
theorem alX_yes {s : ByteArray} {u : List Nat} {m : Nat} {b : List Rw} (h : 2 ^ (freeU low b u.length).length ≤ m) : alX s u m (some b) = ((allS (bts s) u b (2 ^ (freeU low b u.length).length)).map strN, 0) := by unfold alX; exact if_pos h
theorem alX_no {s : ByteArray} {u : List Nat} {m : Nat} {b : List Rw} (h : ¬ 2 ^ (freeU low b u.length).length ≤ m) : alX s u m (some b) = ([], 5) := by unfold alX; exact if_neg h
theorem allS_len (l u : List Nat) (b : List Rw) : ∀ n, (allS l u b n).length = n
  | 0 => rfl
  | n + 1 => by
    have h := allS_len l u b n
    have hp := putK_le (allS l u b n) (fillOf l u low b (freeU low b u.length) n) (allS l u b n).length
    rw [allS, putS, List.length_append, List.length_cons, List.length_take, List.length_drop]; omega
theorem alE_len (s : ByteArray) (l : List Int) (c m : Int) : (alE s l c m).1.length ≤ 64 := by
  unfold alE
  split
  · split
    · rename_i hm
      have := inB_yes hm
      unfold alX
      split
      · simp
      · split
        · rw [List.length_map, allS_len]; omega
        · simp
    · simp
  · simp
theorem pow_small {n : Nat} (h : 2 ^ n ≤ 64) : n < 62 := by
  rcases Nat.lt_or_ge n 62 with h1 | h1
  · exact h1
  · have : 2 ^ 62 ≤ 2 ^ n := Nat.pow_le_pow_right (by decide) h1
    exact absurd (Nat.le_trans this h) (by decide)
set_option maxRecDepth 20000 in
set_option maxHeartbeats 2000000 in
theorem all_i (s : ByteArray) (l : List Int) (v : Value) (c m : Int) (w : World) (h : IntsAt w v l) (hm : l.length ≤ 1048576) (hs : s.size ≤ 1048576) :
    Calls Try.prog 39 #[.string s, v, .int .i64 c, .int .i64 m] w fun e w' => RStringS.retI w (alE s l c m).1 (alE s l c m).2 e w' := by
  have HA := Lib.hid (ask_i s l v c w h hm hs)
  have HIN := Lib.hid (fun W => within_i m 1 64 W)
  cases hok : unkOk s l c
  · have HF : Hid (alE s l c m = ([], 1)) := Lib.hid (by unfold alE; rw [hok]; rfl)
    rw [hok] at HA
    obtain ⟨A, cA, rfl, _⟩ := h
    go_enter Try.func39, Try.ntmps39
    go_wp2_with (fail)
    refine HA.out.mono ?_; rintro e w1 ⟨rfl, rfl⟩
    go_wp2
    exact bodyPost_ret (v := .tuple #[.slice none 0 0, .int .i64 1]) (by simp [results, Try.results39, go_sem]) rfl ⟨_, by rw [HF.out], by rw [HF.out]; exact ⟨OwnL.of_nil, by simp [Value.ownBlock]⟩, Below.refl _ _⟩
  cases hin : inB m 1 64
  · have HF : Hid (alE s l c m = ([], 2)) := Lib.hid (by unfold alE; rw [hok, hin]; rfl)
    rw [hok] at HA
    rw [hin] at HIN
    obtain ⟨A, cA, rfl, _⟩ := h
    go_enter Try.func39, Try.ntmps39
    go_wp2_with (fail)
    refine HA.out.mono ?_; rintro e w1 ⟨rfl, rfl⟩
    go_wp2_with (fail)
    refine (HIN.out _).mono ?_; rintro e w1 ⟨rfl, rfl⟩
    go_wp2
    exact bodyPost_ret (v := .tuple #[.slice none 0 0, .int .i64 2]) (by simp [results, Try.results39, go_sem]) rfl ⟨_, by rw [HF.out], by rw [HF.out]; exact ⟨OwnL.of_nil, by simp [Value.ownBlock]⟩, Below.refl _ _⟩
  rw [hok] at HA
  rw [hin] at HIN
  have hmb := inB_yes hin
  obtain ⟨mm, rfl⟩ : ∃ mm : Nat, m = mm := ⟨m.toNat, by omega⟩
  obtain ⟨u, k, rfl, rfl, hk, hs1, hs2, hul, hub, hur⟩ := unk_nat hok
  have hok' : unkOk s (intsN u) (k : Int) = true := hok
  have HX := Lib.hid (fills_i s u v k mm w h hub (hur.imp fun h => Nat.ne_of_lt h) hs2 hul hk (by omega))
  unfold filQ at HX
  obtain ⟨A, cA, hv, _⟩ := h
  rw [show (u.map fun i : Nat => (i : Int)).length = u.length by simp] at hv
  subst hv
  have hbo := red_both piv_top hul (rowsR_lt s.size u (restOf s u k))
  have he2 : rowsR s.size u (restOf s u k) = rowsOf s u k := rfl
  rw [he2] at hbo
  have HE : Hid (alE s (u.map fun i : Nat => (i : Int)) (k : Int) (mm : Int) = _) := Lib.hid (alE_yes hok' hin)
  clear hok
  rcases hbo with ⟨h1, h2, _⟩ | ⟨a, b, h1, h2, hra, hrb, _, hua, hub2, hsa, hsb, hab, hal⟩
  · rw [h2] at HE
    rw [h1] at HX
    clear h1 h2 he2
    have HF : Hid (alE s (u.map fun i : Nat => (i : Int)) (k : Int) (mm : Int) = ([], 3)) := HE
    go_enter Try.func39, Try.ntmps39
    go_wp2_with (fail)
    refine HA.out.mono ?_; rintro e w1 ⟨rfl, rfl⟩
    go_wp2_with (fail)
    refine (HIN.out _).mono ?_; rintro e w1 ⟨rfl, rfl⟩
    go_wp2_with (fail)
    refine HX.out.mono ?_; rintro e w2 ⟨rfl, hb2⟩
    go_wp2
    exact bodyPost_ret (v := .tuple #[.slice none 0 0, .int .i64 3]) (by simp [results, Try.results39, go_sem]) rfl ⟨_, by rw [HF.out], by rw [HF.out]; exact ⟨OwnL.of_nil, by simp [Value.ownBlock]⟩, hb2⟩
  · have hf1 := free_len hra (red_plt hra hua)
    have hf2 := free_len hrb (red_plt hrb hub2)
    have hfe : (freeU top a u.length).length = (freeU low b u.length).length := by omega
    have has := all_same (l := bts s) bts_lt hur (by rw [bts_len]; exact hub) hul hk hra hrb hua hub2 (by rw [bts_len]; exact hsa) (by rw [bts_len]; exact hsb)
    rw [h2] at HE
    rw [h1] at HX
    simp only at HX
    rw [hfe] at HX has
    by_cases hp : 2 ^ (freeU low b u.length).length ≤ mm
    · have hsm := pow_small (Nat.le_trans hp (show mm ≤ 64 by omega))
      have hT : totN mm (freeU low b u.length).length = 2 ^ (freeU low b u.length).length := by unfold totN; rw [if_neg (Nat.not_le_of_lt hsm)]; exact Nat.min_eq_right hp
      have hd : decide ((freeU low b u.length).length < 62 ∧ 2 ^ (freeU low b u.length).length ≤ mm) = true := decide_eq_true ⟨hsm, hp⟩
      have hne : 0 < (outI (bts s) u a (2 ^ (freeU low b u.length).length)).length := by rw [outI_len]; exact Nat.two_pow_pos _
      have hou : outI (bts s) u a (2 ^ (freeU low b u.length).length) = (allS (bts s) u b (2 ^ (freeU low b u.length).length)).map strN := by unfold outI; rw [has]
      rw [hT, hd, hou] at HX
      rw [hou] at hne
      rw [alX_yes hp] at HE
      generalize (allS (bts s) u b (2 ^ (freeU low b u.length).length)).map strN = L at *
      clear h1 h2 he2 hra hrb hua hub2 hsa hsb hf1 hf2 hfe has hp hsm hT hd hou hal hab
      go_enter Try.func39, Try.ntmps39
      go_wp2_with (fail)
      refine HA.out.mono ?_; rintro e w1 ⟨rfl, rfl⟩
      go_wp2_with (fail)
      refine (HIN.out _).mono ?_; rintro e w1 ⟨rfl, rfl⟩
      go_wp2_with (fail)
      refine HX.out.mono ?_; rintro e w2 ⟨v2, rfl, o2, hb2⟩
      have HO2 := Lib.hid o2
      obtain ⟨A2, c2, rfl, _⟩ := OwnL.shape o2
      clear o2
      go_wp2
      exact bodyPost_ret (v := .tuple #[.slice A2 L.length c2, .int .i64 0]) (by simp [results, Try.results39, go_sem]) rfl ⟨_, by rw [HE.out], by rw [HE.out]; exact ⟨HO2.out, fun g hg => (World.ownsRow.lt HO2.out g hg).2⟩, hb2⟩
    · have hd : decide ((freeU low b u.length).length < 62 ∧ 2 ^ (freeU low b u.length).length ≤ mm) = false := decide_eq_false (fun h => hp h.2)
      have hne : 0 < (outI (bts s) u a (totN mm (freeU low b u.length).length)).length := by
        rw [outI_len]; unfold totN
        have := Nat.two_pow_pos (freeU low b u.length).length
        split
        · omega
        · exact Nat.lt_min.2 ⟨by omega, this⟩
      rw [hd] at HX
      rw [alX_no hp] at HE
      generalize outI (bts s) u a (totN mm (freeU low b u.length).length) = L at *
      clear h1 h2 he2 hra hrb hua hub2 hsa hsb hf1 hf2 hfe has hp hd hal hab
      go_enter Try.func39, Try.ntmps39
      go_wp2_with (fail)
      refine HA.out.mono ?_; rintro e w1 ⟨rfl, rfl⟩
      go_wp2_with (fail)
      refine (HIN.out _).mono ?_; rintro e w1 ⟨rfl, rfl⟩
      go_wp2_with (fail)
      refine HX.out.mono ?_; rintro e w2 ⟨v2, rfl, o2, hb2⟩
      obtain ⟨A2, c2, rfl, _⟩ := OwnL.shape o2
      clear o2
      go_wp2
      exact bodyPost_ret (v := .tuple #[.slice none 0 0, .int .i64 5]) (by simp [results, Try.results39, go_sem]) rfl ⟨_, by rw [HE.out], by rw [HE.out]; exact ⟨OwnL.of_nil, by simp [Value.ownBlock]⟩, hb2⟩
end Go.Proofs.Ytklalbbacbaoiaa
