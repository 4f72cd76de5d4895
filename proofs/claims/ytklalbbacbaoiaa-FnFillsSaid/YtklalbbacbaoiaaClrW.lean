/- Whether data, unknown bits and a check value are as described; data whose unknown bits are cleared, impl and spec: the walks. -/
import Derived.Test.YtklalbbacbaoiaaRowP
import Derived.Test.YtklalbbacbaoiaaFindF
import Derived.Test.YtklalbbacbaoiaaVEqn
namespace Go.Proofs.Ytklalbbacbaoiaa
set_option linter.unusedVariables false
open Go.RowKit
def intsN (u : List Nat) : List Int := u.map fun i : Nat => (i : Int)
theorem intsN_len (u : List Nat) : (intsN u).length = u.length := by simp [intsN]
theorem intsN_get {u : List Nat} {k b : Nat} (h : u[k]? = some b) : (intsN u)[k]? = some (b : Int) := by simp [intsN, h]
set_option maxHeartbeats 1000000 in
theorem ask_i (s : ByteArray) (l : List Int) (v : Value) (c : Int) (w : World) (h : IntsAt w v l) (hm : l.length ≤ 1048576) (hs : s.size ≤ 1048576) :
    Calls Try.prog 68 #[.string s, v, .int .i64 c] w fun e w' => e = .returned (.bool (unkOk s l c)) ∧ w = w' := by
  have HR := Lib.hid (rises_i l v 0 (8 * s.size - 1) w h (by omega))
  obtain ⟨A, cA, rfl, _⟩ := h
  have HF : Hid (unkOk s l c = ((inB s.size 1 64 && inB c 0 65535) && (decide (l.length ≤ 64) && risesB 0 (8 * s.size - 1) l))) := Lib.hid rfl
  have hdl : decide ((l.length : Int) ≤ 64) = decide (l.length ≤ 64) := by apply decide_eq_decide.2; omega
  generalize risesB 0 (8 * s.size - 1) l = b4 at *
  cases h1 : inB s.size 1 64
  · go_enter Try.func68, Try.ntmps68
    go_wp2_with (first | (go_at_call 54; refine (within_i _ _ _ _).mono ?_; rintro e w1 ⟨rfl, rfl⟩) | (go_at_call 55; refine (HR.out).mono ?_; rintro e w1 ⟨rfl, rfl⟩) | (go_at_call 61; go_in))
    go_ret
    exact ⟨ret_bool (by rw [HF.out, h1]; rfl), rfl⟩
  · cases h2 : inB c 0 65535
    · go_enter Try.func68, Try.ntmps68
      go_wp2_with (first | (go_at_call 54; refine (within_i _ _ _ _).mono ?_; rintro e w1 ⟨rfl, rfl⟩) | (go_at_call 55; refine (HR.out).mono ?_; rintro e w1 ⟨rfl, rfl⟩) | (go_at_call 61; go_in))
      go_ret
      exact ⟨ret_bool (by rw [HF.out, h1, h2]; rfl), rfl⟩
    · by_cases h3 : l.length ≤ 64
      · rw [decide_eq_true h3] at hdl
        go_enter Try.func68, Try.ntmps68
        go_wp2_with (first | (go_at_call 54; refine (within_i _ _ _ _).mono ?_; rintro e w1 ⟨rfl, rfl⟩) | (go_at_call 55; refine (HR.out).mono ?_; rintro e w1 ⟨rfl, rfl⟩) | (go_at_call 61; go_in))
        go_ret
        exact ⟨ret_bool (by rw [HF.out, h1, h2, decide_eq_true h3]; rfl), rfl⟩
      · rw [decide_eq_false h3] at hdl
        go_enter Try.func68, Try.ntmps68
        go_wp2_with (first | (go_at_call 54; refine (within_i _ _ _ _).mono ?_; rintro e w1 ⟨rfl, rfl⟩) | (go_at_call 55; refine (HR.out).mono ?_; rintro e w1 ⟨rfl, rfl⟩) | (go_at_call 61; go_in))
        go_ret
        exact ⟨ret_bool (by rw [HF.out, h1, h2, decide_eq_false h3]; rfl), rfl⟩
set_option maxHeartbeats 1000000 in
theorem ask_s (s : ByteArray) (l : List Int) (v : Value) (c : Int) (w : World) (h : IntsAt w v l) (hm : l.length ≤ 1048576) (hs : s.size ≤ 1048576) :
    Calls Try.prog 59 #[.string s, v, .int .i64 c] w fun e w' => e = .returned (.bool (unkOk s l c)) ∧ Below w.heap.size w w' := by
  have HR := Lib.hid (rises_s l v 0 (8 * s.size - 1) w h (by omega))
  obtain ⟨A, cA, rfl, _⟩ := h
  have HF : Hid (unkOk s l c = ((inB s.size 1 64 && inB c 0 65535) && (decide (l.length ≤ 64) && risesB 0 (8 * s.size - 1) l))) := Lib.hid rfl
  have hdl : decide ((l.length : Int) ≤ 64) = decide (l.length ≤ 64) := by apply decide_eq_decide.2; omega
  generalize risesB 0 (8 * s.size - 1) l = b4 at *
  cases h1 : inB s.size 1 64
  · go_enter Try.func59, Try.ntmps59
    go_wp2_with (first | (go_at_call 51; refine (in_s _ _ _ _).mono ?_; rintro e w1 ⟨rfl, rfl⟩) | (go_at_call 52; refine (HR.out).mono ?_; rintro e w1 ⟨rfl, hb1⟩) | (go_at_call 82; go_in))
    go_ret
    exact ⟨ret_bool (by rw [HF.out, h1]; rfl), Below.refl _ _⟩
  · by_cases h3 : l.length ≤ 64
    · rw [decide_eq_true h3] at hdl
      cases b4
      · go_enter Try.func59, Try.ntmps59
        go_wp2_with (first | (go_at_call 51; refine (in_s _ _ _ _).mono ?_; rintro e w1 ⟨rfl, rfl⟩) | (go_at_call 52; refine (HR.out).mono ?_; rintro e w1 ⟨rfl, hb1⟩) | (go_at_call 82; go_in))
        go_ret
        exact ⟨ret_bool (by rw [HF.out, h1, decide_eq_true h3]; cases inB c 0 65535 <;> rfl), hb1⟩
      · go_enter Try.func59, Try.ntmps59
        go_wp2_with (first | (go_at_call 51; refine (in_s _ _ _ _).mono ?_; rintro e w1 ⟨rfl, rfl⟩) | (go_at_call 52; refine (HR.out).mono ?_; rintro e w1 ⟨rfl, hb1⟩) | (go_at_call 82; go_in))
        go_ret
        exact ⟨ret_bool (by rw [HF.out, h1, decide_eq_true h3]; cases inB c 0 65535 <;> rfl), hb1⟩
    · rw [decide_eq_false h3] at hdl
      go_enter Try.func59, Try.ntmps59
      go_wp2_with (first | (go_at_call 51; refine (in_s _ _ _ _).mono ?_; rintro e w1 ⟨rfl, rfl⟩) | (go_at_call 52; refine (HR.out).mono ?_; rintro e w1 ⟨rfl, hb1⟩) | (go_at_call 82; go_in))
      go_ret
      exact ⟨ret_bool (by rw [HF.out, h1, decide_eq_false h3]; cases inB c 0 65535 <;> rfl), Below.refl _ _⟩
theorem take_next {l : List Nat} {k x : Nat} (h : l[k]? = some x) : l.take (k + 1) = l.take k ++ [x] := by
  obtain ⟨hk, rfl⟩ := List.getElem?_eq_some_iff.1 h
  rw [List.take_succ_eq_append_getElem hk]
theorem clrN_take {l u : List Nat} {k b : Nat} (h : u[k]? = some b) : clrN l (u.take (k + 1)) = clr1 (clrN l (u.take k)) b := by rw [take_next h, clrN_snoc]
def clrQ1 (s : ByteArray) (u : List Nat) (w : World) (e : Ending) (w' : World) : Prop := e = .returned (.string (strN (clrN (bts s) u))) ∧ Below w.heap.size w w'
def clrQ2 (s : ByteArray) (u : List Nat) (w : World) (e : Ending) (w' : World) : Prop := ∃ c, e = .returned (.slice (some ⟨w.heap.size, 0, none⟩) s.size c) ∧ Buf w' w.heap.size (clrN (bts s) u) ∧ w.heap.size < w'.heap.size ∧ Below w.heap.size w w'
set_option maxRecDepth 20000 in
set_option maxHeartbeats 2000000 in
theorem clear_i (s : ByteArray) (u : List Nat) (v : Value) (w : World) (h : IntsAt w v (intsN u)) (hu : ∀ b ∈ u, b < 8 * s.size) (hs : s.size ≤ 1048576) (hm : u.length ≤ 1048576) :
    Calls Try.prog 91 #[.string s, v] w fun e w' => clrQ1 s u w e w' := by
  unfold clrQ1
  obtain ⟨cb, wb, hcv, hbuf, hb0, hwz⟩ := buf_of_str w s
  obtain ⟨A, cA, rfl, hA⟩ := h
  rw [intsN_len]
  have hl := bts_len s
  by_cases hu0 : u = []
  · subst hu0
    have hst := (hbuf.str (n := s.size) (c := cb) hl)
    go_enter Try.func91, Try.ntmps91
    go_wp2
    refine wp_loop_once ?_
    go_wp2
    go_ret
    first | exact ⟨rfl, hb0⟩ | exact ⟨_, rfl, hbuf, by omega, hb0⟩
  · obtain ⟨g, rfl, hg, hc⟩ := hA.resolve_left (by simpa [intsN] using hu0)
    have HC := Lib.hid hc
    have HU := Lib.hid hu
    clear hA hc hu
    go_enter Try.func91, Try.ntmps91
    go_wp2
    go_loopw [12] (fun i wr => ∃ k : Nat, k ≤ u.length ∧ i = .int .i64 k ∧ Below w.heap.size w wr ∧ w.heap.size < wr.heap.size ∧ Hid (Buf wr w.heap.size (clrN (bts s) (u.take k)))) (fun i _ => u.length - (intOf i).toNat)
    case atStart => exact ⟨0, by omega, rfl, hb0, by omega, Lib.hid (by simpa [clrN] using hbuf)⟩
    case round =>
      obtain ⟨k, hk, rfl, hb, hz, HB⟩ := hrel
      by_cases hlt : k < u.length
      · obtain ⟨b, hbk⟩ : ∃ b, u[k]? = some b := ⟨u[k], List.getElem?_eq_getElem hlt⟩
        have hbs := HU.out b (List.mem_of_getElem? hbk)
        have pk := (hb.cell (p := ⟨g, k, none⟩) hg).trans (HC.out k _ (intsN_get hbk))
        obtain ⟨kk, r, hkk, hr, hr8, hbit⟩ := bit_split b
        have hll : (clrN (bts s) (u.take k)).length = s.size := by rw [clrN_len]; exact hl
        obtain ⟨x, hx⟩ : ∃ x, (clrN (bts s) (u.take k))[kk]? = some x := ⟨_, List.getElem?_eq_getElem (by omega)⟩
        obtain ⟨p1, p2⟩ := HB.out kk x hx
        have hx8 := clrN_lt bts_lt x (List.mem_of_getElem? hx)
        have HS := Lib.hid (HB.out.set (clrX x r) hx)
        rw [← clr1_at hkk hr hx, ← clrN_take hbk] at HS
        have e1 : ((b : Int) / 8) = (kk : Int) := by omega
        have e2 : ((b : Int) % 8) = (r : Int) := by omega
        have e3 : ((b : Int).tmod 8) = (r : Int) := by rw [Int.tmod_eq_emod_of_nonneg (by omega)]; omega
        have hww : IntKind.i64.wrap (kk : Int) = kk := by rw [IntKind.wrap_i64]; omega
        have hwr : IntKind.i64.wrap (r : Int) = r := by rw [IntKind.wrap_i64]; omega
        have hxs := andnot_sh x r hx8 hr8
        have hkk2 : kk < s.size := by omega
        have hxs8 : bits .andNot .u8 (x : Int) (128 / 2 ^ min r 8) = ((clrX x r : Nat) : Int) := by rw [Nat.min_eq_left (by omega)]; exact hxs
        clear hbk hkk hr hbit hx hll
        go_wp2
        have q0 := (show ({ wr with drawn := wr.drawn + 1 } : World).cell? _ = _ from pk)
        have q1 := (show ({ wr with drawn := wr.drawn + 1 } : World).cell? _ = _ from p1)
        have q2 := (show ({ wr with drawn := wr.drawn + 1 } : World).frozen? _ = _ from p2)
        go_still_tail 10, (by kernel_rfl)
        go_wp2
        go_roundw
        case rel => exact ⟨k + 1, by omega, by go_num, (by repeat (first | exact Below.refl _ _ | refine Below.alloc ?_ (by first | omega | (simp; done) | (simp; omega)) _ | apply Below.drew | apply below_drewN | refine Below.setCell ?_ (by first | omega | (simp; done) | (simp; omega)) _ | refine Below.trans ?_ (Below.mono (by assumption) (by first | omega | (simp; done) | (simp; omega))))), by simp; omega, Lib.hid (by first | exact HS.out.block rfl | (rw [hxs8]; exact HS.out.block rfl))⟩
        case measure => simp [intOf]; omega
      · obtain rfl : k = u.length := by omega
        have HB2 := HB.out
        rw [List.take_length] at HB2
        have hst := HB2.str (n := s.size) (c := cb) (by rw [clrN_len]; exact hl)
        go_wp2
        go_ret
        first | exact ⟨rfl, hb⟩ | exact ⟨_, rfl, HB2, by omega, hb⟩
set_option maxRecDepth 20000 in
set_option maxHeartbeats 2000000 in
theorem clear_s (s : ByteArray) (u : List Nat) (v : Value) (w : World) (h : IntsAt w v (intsN u)) (hu : ∀ b ∈ u, b < 8 * s.size) (hs : s.size ≤ 1048576) (hm : u.length ≤ 1048576) :
    Calls Try.prog 90 #[.string s, v] w fun e w' => clrQ2 s u w e w' := by
  unfold clrQ2
  obtain ⟨cb, wb, hcv, hbuf, hb0, hwz⟩ := buf_of_str w s
  obtain ⟨A, cA, rfl, hA⟩ := h
  rw [intsN_len]
  have hl := bts_len s
  by_cases hu0 : u = []
  · subst hu0
    have hst := (hbuf.str (n := s.size) (c := cb) hl)
    go_enter Try.func90, Try.ntmps90
    go_wp2
    refine wp_loop_once ?_
    go_wp2
    go_ret
    first | exact ⟨rfl, hb0⟩ | exact ⟨_, rfl, hbuf, by omega, hb0⟩
  · obtain ⟨g, rfl, hg, hc⟩ := hA.resolve_left (by simpa [intsN] using hu0)
    have HC := Lib.hid hc
    have HU := Lib.hid hu
    clear hA hc hu
    go_enter Try.func90, Try.ntmps90
    go_wp2
    go_loopw [6] (fun i wr => ∃ k : Nat, k ≤ u.length ∧ i = .int .i64 k ∧ Below w.heap.size w wr ∧ w.heap.size < wr.heap.size ∧ Hid (Buf wr w.heap.size (clrN (bts s) (u.take k)))) (fun i _ => u.length - (intOf i).toNat)
    case atStart => exact ⟨0, by omega, rfl, hb0, by omega, Lib.hid (by simpa [clrN] using hbuf)⟩
    case round =>
      obtain ⟨k, hk, rfl, hb, hz, HB⟩ := hrel
      by_cases hlt : k < u.length
      · obtain ⟨b, hbk⟩ : ∃ b, u[k]? = some b := ⟨u[k], List.getElem?_eq_getElem hlt⟩
        have hbs := HU.out b (List.mem_of_getElem? hbk)
        have pk := (hb.cell (p := ⟨g, k, none⟩) hg).trans (HC.out k _ (intsN_get hbk))
        obtain ⟨kk, r, hkk, hr, hr8, hbit⟩ := bit_split b
        have hll : (clrN (bts s) (u.take k)).length = s.size := by rw [clrN_len]; exact hl
        obtain ⟨x, hx⟩ : ∃ x, (clrN (bts s) (u.take k))[kk]? = some x := ⟨_, List.getElem?_eq_getElem (by omega)⟩
        obtain ⟨p1, p2⟩ := HB.out kk x hx
        have hx8 := clrN_lt bts_lt x (List.mem_of_getElem? hx)
        have HS := Lib.hid (HB.out.set (clrX x r) hx)
        rw [← clr1_at hkk hr hx, ← clrN_take hbk] at HS
        have e1 : ((b : Int) / 8) = (kk : Int) := by omega
        have e2 : ((b : Int) % 8) = (r : Int) := by omega
        have e3 : ((b : Int).tmod 8) = (r : Int) := by rw [Int.tmod_eq_emod_of_nonneg (by omega)]; omega
        have hww : IntKind.i64.wrap (kk : Int) = kk := by rw [IntKind.wrap_i64]; omega
        have hwr : IntKind.i64.wrap (r : Int) = r := by rw [IntKind.wrap_i64]; omega
        have hxs := andnot_sh x r hx8 hr8
        have hkk2 : kk < s.size := by omega
        have hxs8 : bits .andNot .u8 (x : Int) (128 / 2 ^ min r 8) = ((clrX x r : Nat) : Int) := by rw [Nat.min_eq_left (by omega)]; exact hxs
        clear hbk hkk hr hbit hx hll
        go_wp2
        have q0 := (show ({ wr with drawn := wr.drawn + 1 } : World).cell? _ = _ from pk)
        have q1 := (show ({ wr with drawn := wr.drawn + 1 } : World).cell? _ = _ from p1)
        have q2 := (show ({ wr with drawn := wr.drawn + 1 } : World).frozen? _ = _ from p2)
        go_still_tail 17, (by kernel_rfl)
        go_wp2
        go_roundw
        case rel => exact ⟨k + 1, by omega, by go_num, (by repeat (first | exact Below.refl _ _ | refine Below.alloc ?_ (by first | omega | (simp; done) | (simp; omega)) _ | apply Below.drew | apply below_drewN | refine Below.setCell ?_ (by first | omega | (simp; done) | (simp; omega)) _ | refine Below.trans ?_ (Below.mono (by assumption) (by first | omega | (simp; done) | (simp; omega))))), by simp; omega, Lib.hid (by first | exact HS.out.block rfl | (rw [hxs8]; exact HS.out.block rfl))⟩
        case measure => simp [intOf]; omega
      · obtain rfl : k = u.length := by omega
        have HB2 := HB.out
        rw [List.take_length] at HB2
        have hst := HB2.str (n := s.size) (c := cb) (by rw [clrN_len]; exact hl)
        go_wp2
        go_ret
        first | exact ⟨rfl, hb⟩ | exact ⟨_, rfl, HB2, by omega, hb⟩
end Go.Proofs.Ytklalbbacbaoiaa
