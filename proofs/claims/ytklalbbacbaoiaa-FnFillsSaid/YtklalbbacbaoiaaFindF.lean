/- FindFlip, impl and spec: the walks. -/
import Derived.Test.YtklalbbacbaoiaaEff
namespace Go.Proofs.Ytklalbbacbaoiaa
set_option linter.unusedVariables false
open Go.RowKit

/-- looks for the only bit, from bit k on, m bits left -/
def ffL (n : Nat) (wn : Nat) (found : Int) : Nat → Nat → Int × Int
  | _, 0 => if found < 0 then (0, 3) else (found, 0)
  | k, m + 1 => if effN n k = wn then (if 0 ≤ found then (0, 11) else ffL n wn k (k + 1) m) else ffL n wn found (k + 1) m
def ffR (s : ByteArray) (crc : Int) : Int × Int :=
  if inB s.size 1 64 && inB crc 0 65535 then
    if crcN (bts s) 65535 ^^^ crc.toNat = 0 then (-1, 0) else ffL s.size (crcN (bts s) 65535 ^^^ crc.toNat) (-1) 0 (8 * s.size)
  else (0, 1)
def ffV (s : ByteArray) (crc : Int) : Value := .tuple #[.int .i64 (ffR s crc).1, .int .i64 (ffR s crc).2]
theorem ff_skip {n wn k t : Nat} {f : Int} {X : Int × Int} (hk : k < t) (H : Hid (X = ffL n wn f k (t - k))) (h : effN n k ≠ wn) : Hid (X = ffL n wn f (k + 1) (t - (k + 1))) :=
  Lib.hid (by rw [H.out, show t - k = (t - (k + 1)) + 1 by omega, ffL, if_neg h])
theorem ff_take {n wn k t : Nat} {f : Int} {X : Int × Int} (hk : k < t) (H : Hid (X = ffL n wn f k (t - k))) (h : effN n k = wn) (hf : f < 0) : Hid (X = ffL n wn k (k + 1) (t - (k + 1))) :=
  Lib.hid (by rw [H.out, show t - k = (t - (k + 1)) + 1 by omega, ffL, if_pos h, if_neg (by omega)])
theorem ff_two {n wn k t : Nat} {f : Int} {X : Int × Int} (hk : k < t) (H : Hid (X = ffL n wn f k (t - k))) (h : effN n k = wn) (hf : 0 ≤ f) : X = (0, 11) := by
  rw [H.out, show t - k = (t - (k + 1)) + 1 by omega, ffL, if_pos h, if_pos hf]
theorem ff_end {n wn k t : Nat} {f : Int} {X : Int × Int} (hk : t ≤ k) (H : Hid (X = ffL n wn f k (t - k))) : X = if f < 0 then (0, 3) else (f, 0) := by
  rw [H.out, show t - k = 0 by omega, ffL]
set_option maxHeartbeats 2000000 in
theorem ff_i (s : ByteArray) (crc : Int) (w : World) (hs : s.size ≤ 1048576) :
    Calls Try.prog 23 #[.string s, .int .i64 crc] w fun e w' => e = .returned (ffV s crc) ∧ Below w.heap.size w w' := by
  by_cases hok : (1 ≤ s.size ∧ s.size ≤ 64) ∧ (0 ≤ crc ∧ crc ≤ 65535)
  · obtain ⟨⟨h1, h2⟩, h3, h4⟩ := hok
    obtain ⟨x, rfl⟩ : ∃ x : Nat, crc = x := ⟨crc.toNat, by omega⟩
    have b1 : inB s.size 1 64 = true := inB_t (by omega)
    have b2 : inB (x : Int) 0 65535 = true := inB_t (by omega)
    have hcl := crcN_lt (bts s) 65535 (by omega)
    have hC := crcn_i s 65535 w (by omega) (by omega)
    have hx := i64_xor_nat (crcN (bts s) 65535) x (by omega) (by omega)
    have HV : ffR s (x : Int) = if crcN (bts s) 65535 ^^^ x = 0 then (-1, 0) else ffL s.size (crcN (bts s) 65535 ^^^ x) (-1) 0 (8 * s.size) := by unfold ffR; rw [b1, b2]; rfl
    have hwl : crcN (bts s) 65535 ^^^ x < 65536 := Nat.xor_lt_two_pow (n := 16) hcl (by omega)
    generalize crcN (bts s) 65535 = cn at *
    generalize cn ^^^ x = wn at *
    by_cases h0 : wn = 0
    · have HF : Hid (ffV s (x : Int) = .tuple #[.int .i64 (-1), .int .i64 0]) := Lib.hid (by unfold ffV; rw [HV, if_pos h0])
      have h0' : ((wn : Int) == 0) = true := by simp [h0]
      clear HV h0
      go_enter Try.func23, Try.ntmps23
      go_wp2_with (first | (go_at_call 54; refine (within_i _ _ _ _).mono ?_; rintro e w1 ⟨rfl, rfl⟩) | (go_at_call 62; refine hC.mono ?_; rintro e w1 ⟨rfl, rfl⟩) | go_in)
      rw [HF.out]
      exact bodyPost_ret (by simp [results, Try.results23, go_sem]; try rfl) rfl ⟨rfl, Below.refl _ _⟩
    · have HF : Hid (ffR s (x : Int) = ffL s.size wn (-1) 0 (8 * s.size)) := Lib.hid (by rw [HV, if_neg h0])
      have h0' : ((wn : Int) == 0) = false := by simp [h0]
      clear HV h0
      go_enter Try.func23, Try.ntmps23
      go_wp2_with (first | (go_at_call 54; refine (within_i _ _ _ _).mono ?_; rintro e w1 ⟨rfl, rfl⟩) | (go_at_call 62; refine hC.mono ?_; rintro e w1 ⟨rfl, rfl⟩) | go_in)
      go_loopw [22, 7] (fun i y wr => ∃ (k : Nat) (f : Int), k ≤ 8 * s.size ∧ i = .int .i64 k ∧ y = .int .i64 f ∧ -1 ≤ f ∧ f ≤ k ∧ Below w.heap.size w wr ∧ Hid (ffR s (x : Int) = ffL s.size wn f k (8 * s.size - k))) (fun i _ _ => 8 * s.size - (intOf i).toNat)
      case atStart => exact ⟨0, -1, by omega, rfl, rfl, by omega, by omega, Below.refl _ _, HF⟩
      case round =>
        obtain ⟨k, f, hk, rfl, rfl, hf1, hf2, hb, HL⟩ := hrel
        have zr := hb.size
        have hlt' : decide ((k : Int) < 8 * (s.size : Int)) = decide (k < 8 * s.size) := by apply decide_eq_decide.2; omega
        by_cases hlt : k < 8 * s.size
        · by_cases he : effN s.size k = wn
          · have he' : (((effN s.size k : Nat) : Int) != (wn : Int)) = false := by simp [he]
            have HE := Lib.hid he
            clear he
            by_cases hf : 0 ≤ f
            · have HF2 : Hid (ffV s (x : Int) = .tuple #[.int .i64 0, .int .i64 11]) := Lib.hid (by unfold ffV; rw [ff_two hlt HL HE.out hf])
              go_wp2_with (go_at_call 58; refine (eff_i s.size k _ h2 hlt).mono ?_; rintro e w1 ⟨rfl, hb1⟩)
              rw [HF2.out]
              exact bodyPost_ret (by simp [results, Try.results23, go_sem]; try rfl) rfl ⟨rfl, (by repeat (first | exact Below.refl _ _ | refine Below.alloc ?_ (by first | omega | (simp; done) | (simp; omega)) _ | apply Below.drew | apply below_drewN | refine Below.setCell ?_ (by first | omega | (simp; done) | (simp; omega)) _ | refine Below.trans ?_ (Below.mono (by assumption) (by first | omega | (simp; done) | (simp; omega)))))⟩
            · have HN := ff_take hlt HL HE.out (by omega)
              go_wp2_with (go_at_call 58; refine (eff_i s.size k _ h2 hlt).mono ?_; rintro e w1 ⟨rfl, hb1⟩)
              go_roundw
              case rel => exact ⟨k + 1, k, by omega, by go_num, rfl, by omega, by omega, (by repeat (first | exact Below.refl _ _ | refine Below.alloc ?_ (by first | omega | (simp; done) | (simp; omega)) _ | apply Below.drew | apply below_drewN | refine Below.setCell ?_ (by first | omega | (simp; done) | (simp; omega)) _ | refine Below.trans ?_ (Below.mono (by assumption) (by first | omega | (simp; done) | (simp; omega))))), HN⟩
              case measure => simp [intOf]; omega
          · have he' : (((effN s.size k : Nat) : Int) != (wn : Int)) = true := by simp; omega
            have HN := ff_skip hlt HL he
            clear he
            go_wp2_with (go_at_call 58; refine (eff_i s.size k _ h2 hlt).mono ?_; rintro e w1 ⟨rfl, hb1⟩)
            go_roundw
            case rel => exact ⟨k + 1, f, by omega, by go_num, rfl, by omega, by omega, (by repeat (first | exact Below.refl _ _ | refine Below.alloc ?_ (by first | omega | (simp; done) | (simp; omega)) _ | apply Below.drew | apply below_drewN | refine Below.setCell ?_ (by first | omega | (simp; done) | (simp; omega)) _ | refine Below.trans ?_ (Below.mono (by assumption) (by first | omega | (simp; done) | (simp; omega))))), HN⟩
            case measure => simp [intOf]; omega
        · have HN := ff_end (by omega) HL
          by_cases hf : f < 0
          · have HF2 : Hid (ffV s (x : Int) = .tuple #[.int .i64 0, .int .i64 3]) := Lib.hid (by unfold ffV; rw [HN, if_pos hf])
            clear HN
            go_wp2
            rw [HF2.out]
            exact bodyPost_ret (by simp [results, Try.results23, go_sem]; try rfl) rfl ⟨rfl, hb⟩
          · have HF2 : Hid (ffV s (x : Int) = .tuple #[.int .i64 f, .int .i64 0]) := Lib.hid (by unfold ffV; rw [HN, if_neg hf])
            clear HN
            go_wp2
            rw [HF2.out]
            exact bodyPost_ret (by simp [results, Try.results23, go_sem]; try rfl) rfl ⟨rfl, hb⟩
  · have HF : Hid (ffV s crc = .tuple #[.int .i64 0, .int .i64 1]) := Lib.hid (by
      unfold ffV ffR
      rw [if_neg]
      intro h
      rw [Bool.and_eq_true] at h
      have h1 := inB_yes h.1
      have h2 := inB_yes h.2
      omega)
    by_cases h1 : 1 ≤ s.size ∧ s.size ≤ 64
    · have b1 : inB s.size 1 64 = true := inB_t (by omega)
      have b2 : inB crc 0 65535 = false := inB_f (by omega)
      go_enter Try.func23, Try.ntmps23
      go_wp2_with (first | (go_at_call 54; refine (within_i _ _ _ _).mono ?_; rintro e w1 ⟨rfl, rfl⟩) | go_in)
      rw [HF.out]
      exact bodyPost_ret (by simp [results, Try.results23, go_sem]; try rfl) rfl ⟨rfl, Below.refl _ _⟩
    · have b1 : inB s.size 1 64 = false := inB_f (by omega)
      go_enter Try.func23, Try.ntmps23
      go_wp2_with (first | (go_at_call 54; refine (within_i _ _ _ _).mono ?_; rintro e w1 ⟨rfl, rfl⟩) | go_in)
      rw [HF.out]
      exact bodyPost_ret (by simp [results, Try.results23, go_sem]; try rfl) rfl ⟨rfl, Below.refl _ _⟩
theorem rises_nil (A : Option Addr) (c : Nat) (lo hi : Int) (w : World) : Calls Try.prog 52 #[.slice A 0 c, .int .i64 lo, .int .i64 hi] w fun e w' => e = .returned (.bool true) ∧ w = w' := by
  go_enter Try.func52, Try.ntmps52
  go_wp2
  refine wp_loop_once ?_
  go_wp2
  go_ret
  exact ⟨rfl, rfl⟩
set_option maxRecDepth 20000 in
set_option maxHeartbeats 2000000 in
theorem ff_s (s : ByteArray) (crc : Int) (w : World) (hs : s.size ≤ 1048576) :
    Calls Try.prog 22 #[.string s, .int .i64 crc] w fun e w' => e = .returned (ffV s crc) ∧ Below w.heap.size w w' := by
  by_cases hok : (1 ≤ s.size ∧ s.size ≤ 64) ∧ (0 ≤ crc ∧ crc ≤ 65535)
  · obtain ⟨⟨h1, h2⟩, h3, h4⟩ := hok
    obtain ⟨x, rfl⟩ : ∃ x : Nat, crc = x := ⟨crc.toNat, by omega⟩
    have b1 : inB s.size 1 64 = true := inB_t (by omega)
    have b2 : inB (x : Int) 0 65535 = true := inB_t (by omega)
    have hcl := crcN_lt (bts s) 65535 (by omega)
    obtain ⟨cb, wb, hcv, hbuf, hb0, hwz⟩ := buf_of_str (w.alloc (.cells #[] 2)) s
    have hC := crcb_s _ cb s.size (bts s) wb hbuf (bts_len s) (by omega) bts_lt
    have Bb : Below w.heap.size w wb := (Below.alloc (Below.refl _ _) (Nat.le_refl _) _).trans (hb0.mono (by simp))
    clear hbuf hb0
    have hzz : (w.alloc (.cells #[] 2)).heap.size = w.heap.size + 1 := by simp
    rw [hzz] at hcv hC
    clear hzz
    have hx := i64_xor_nat (crcN (bts s) 65535) x (by omega) (by omega)
    have HV : ffR s (x : Int) = if crcN (bts s) 65535 ^^^ x = 0 then (-1, 0) else ffL s.size (crcN (bts s) 65535 ^^^ x) (-1) 0 (8 * s.size) := by unfold ffR; rw [b1, b2]; rfl
    have hwl : crcN (bts s) 65535 ^^^ x < 65536 := Nat.xor_lt_two_pow (n := 16) hcl (by omega)
    generalize crcN (bts s) 65535 = cn at *
    generalize cn ^^^ x = wn at *
    by_cases h0 : wn = 0
    · have HF : Hid (ffV s (x : Int) = .tuple #[.int .i64 (-1), .int .i64 0]) := Lib.hid (by unfold ffV; rw [HV, if_pos h0])
      have h0' : ((wn : Int) == 0) = true := by simp [h0]
      clear HV h0
      go_enter Try.func22, Try.ntmps22
      go_wp2_with (first | (go_at_call 51; refine (in_s _ _ _ _).mono ?_; rintro e w1 ⟨rfl, rfl⟩) | (go_at_call 60; refine hC.mono ?_; rintro e w1 ⟨rfl, rfl⟩) | (go_at_call 52; refine (rises_nil _ _ _ _ _).mono ?_; rintro e w1 ⟨rfl, rfl⟩) | go_in)
      rw [HF.out]
      exact bodyPost_ret (by simp [results, Try.results22, go_sem]; try rfl) rfl ⟨rfl, Bb⟩
    · have HF : Hid (ffR s (x : Int) = ffL s.size wn (-1) 0 (8 * s.size)) := Lib.hid (by rw [HV, if_neg h0])
      have h0' : ((wn : Int) == 0) = false := by simp [h0]
      clear HV h0
      go_enter Try.func22, Try.ntmps22
      go_wp2_with (first | (go_at_call 51; refine (in_s _ _ _ _).mono ?_; rintro e w1 ⟨rfl, rfl⟩) | (go_at_call 60; refine hC.mono ?_; rintro e w1 ⟨rfl, rfl⟩) | (go_at_call 52; refine (rises_nil _ _ _ _ _).mono ?_; rintro e w1 ⟨rfl, rfl⟩) | go_in)
      go_loopw [8, 7] (fun i y wr => ∃ (k : Nat) (f : Int), k ≤ 8 * s.size ∧ i = .int .i64 k ∧ y = .int .i64 f ∧ -1 ≤ f ∧ f ≤ k ∧ Below w.heap.size w wr ∧ Hid (ffR s (x : Int) = ffL s.size wn f k (8 * s.size - k))) (fun i _ _ => 8 * s.size - (intOf i).toNat)
      case atStart => exact ⟨0, -1, by omega, rfl, rfl, by omega, by omega, Bb, HF⟩
      case round =>
        obtain ⟨k, f, hk, rfl, rfl, hf1, hf2, hb, HL⟩ := hrel
        have zr := hb.size
        have hlt' : decide ((k : Int) < 8 * (s.size : Int)) = decide (k < 8 * s.size) := by apply decide_eq_decide.2; omega
        by_cases hlt : k < 8 * s.size
        · by_cases he : effN s.size k = wn
          · have he' : (((effN s.size k : Nat) : Int) != (wn : Int)) = false := by simp [he]
            have HE := Lib.hid he
            clear he
            by_cases hf : 0 ≤ f
            · have HF2 : Hid (ffV s (x : Int) = .tuple #[.int .i64 0, .int .i64 11]) := Lib.hid (by unfold ffV; rw [ff_two hlt HL HE.out hf])
              go_wp2_with (go_at_call 57; refine (eff_s s.size k _ h2 hlt).mono ?_; rintro e w1 ⟨rfl, hb1⟩)
              rw [HF2.out]
              exact bodyPost_ret (by simp [results, Try.results22, go_sem]; try rfl) rfl ⟨rfl, (by repeat (first | exact Below.refl _ _ | refine Below.alloc ?_ (by first | omega | (simp; done) | (simp; omega)) _ | apply Below.drew | apply below_drewN | refine Below.setCell ?_ (by first | omega | (simp; done) | (simp; omega)) _ | refine Below.trans ?_ (Below.mono (by assumption) (by first | omega | (simp; done) | (simp; omega)))))⟩
            · have HN := ff_take hlt HL HE.out (by omega)
              go_wp2_with (go_at_call 57; refine (eff_s s.size k _ h2 hlt).mono ?_; rintro e w1 ⟨rfl, hb1⟩)
              go_roundw
              case rel => exact ⟨k + 1, k, by omega, by go_num, rfl, by omega, by omega, (by repeat (first | exact Below.refl _ _ | refine Below.alloc ?_ (by first | omega | (simp; done) | (simp; omega)) _ | apply Below.drew | apply below_drewN | refine Below.setCell ?_ (by first | omega | (simp; done) | (simp; omega)) _ | refine Below.trans ?_ (Below.mono (by assumption) (by first | omega | (simp; done) | (simp; omega))))), HN⟩
              case measure => simp [intOf]; omega
          · have he' : (((effN s.size k : Nat) : Int) != (wn : Int)) = true := by simp; omega
            have HN := ff_skip hlt HL he
            clear he
            go_wp2_with (go_at_call 57; refine (eff_s s.size k _ h2 hlt).mono ?_; rintro e w1 ⟨rfl, hb1⟩)
            go_roundw
            case rel => exact ⟨k + 1, f, by omega, by go_num, rfl, by omega, by omega, (by repeat (first | exact Below.refl _ _ | refine Below.alloc ?_ (by first | omega | (simp; done) | (simp; omega)) _ | apply Below.drew | apply below_drewN | refine Below.setCell ?_ (by first | omega | (simp; done) | (simp; omega)) _ | refine Below.trans ?_ (Below.mono (by assumption) (by first | omega | (simp; done) | (simp; omega))))), HN⟩
            case measure => simp [intOf]; omega
        · have HN := ff_end (by omega) HL
          by_cases hf : f < 0
          · have HF2 : Hid (ffV s (x : Int) = .tuple #[.int .i64 0, .int .i64 3]) := Lib.hid (by unfold ffV; rw [HN, if_pos hf])
            clear HN
            go_wp2
            rw [HF2.out]
            exact bodyPost_ret (by simp [results, Try.results22, go_sem]; try rfl) rfl ⟨rfl, hb⟩
          · have HF2 : Hid (ffV s (x : Int) = .tuple #[.int .i64 f, .int .i64 0]) := Lib.hid (by unfold ffV; rw [HN, if_neg hf])
            clear HN
            go_wp2
            rw [HF2.out]
            exact bodyPost_ret (by simp [results, Try.results22, go_sem]; try rfl) rfl ⟨rfl, hb⟩
  · have HF : Hid (ffV s crc = .tuple #[.int .i64 0, .int .i64 1]) := Lib.hid (by
      unfold ffV ffR
      rw [if_neg]
      intro h
      rw [Bool.and_eq_true] at h
      have h1 := inB_yes h.1
      have h2 := inB_yes h.2
      omega)
    by_cases h1 : 1 ≤ s.size ∧ s.size ≤ 64
    · have b1 : inB s.size 1 64 = true := inB_t (by omega)
      have b2 : inB crc 0 65535 = false := inB_f (by omega)
      go_enter Try.func22, Try.ntmps22
      go_wp2_with (first | (go_at_call 51; refine (in_s _ _ _ _).mono ?_; rintro e w1 ⟨rfl, rfl⟩) | (go_at_call 52; refine (rises_nil _ _ _ _ _).mono ?_; rintro e w1 ⟨rfl, rfl⟩) | go_in)
      rw [HF.out]
      exact bodyPost_ret (by simp [results, Try.results22, go_sem]; try rfl) rfl ⟨rfl, (by repeat (first | exact Below.refl _ _ | refine Below.alloc ?_ (by first | omega | (simp; done) | (simp; omega)) _ | apply Below.drew | apply below_drewN | refine Below.setCell ?_ (by first | omega | (simp; done) | (simp; omega)) _ | refine Below.trans ?_ (Below.mono (by assumption) (by first | omega | (simp; done) | (simp; omega)))))⟩
    · have b1 : inB s.size 1 64 = false := inB_f (by omega)
      go_enter Try.func22, Try.ntmps22
      go_wp2_with (first | (go_at_call 51; refine (in_s _ _ _ _).mono ?_; rintro e w1 ⟨rfl, rfl⟩) | (go_at_call 52; refine (rises_nil _ _ _ _ _).mono ?_; rintro e w1 ⟨rfl, rfl⟩) | go_in)
      rw [HF.out]
      exact bodyPost_ret (by simp [results, Try.results22, go_sem]; try rfl) rfl ⟨rfl, (by repeat (first | exact Below.refl _ _ | refine Below.alloc ?_ (by first | omega | (simp; done) | (simp; omega)) _ | apply Below.drew | apply below_drewN | refine Below.setCell ?_ (by first | omega | (simp; done) | (simp; omega)) _ | refine Below.trans ?_ (Below.mono (by assumption) (by first | omega | (simp; done) | (simp; omega)))))⟩
end Go.Proofs.Ytklalbbacbaoiaa
