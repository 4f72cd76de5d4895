/- Whether data, unknown bits and a check value are as described; data whose unknown bits are cleared, impl and spec: the walks. rowsOf: the walk. Contracts of the library over this program (printed by the kit, over the functions of this seat). topmost: the walk. l25Rows: the walk. -/
import Derived.Test.YtfcdienphillnaaGreatLr11
import Derived.Test.YtfcdienphillnaaGreatProg
import Derived.Shelf.Strconv.Itoa0
namespace Go.Proofs.YtfcdienphillnaaGreat
set_option linter.unusedVariables false
set_option linter.unusedSimpArgs false
open Go.RowKit
set_option maxHeartbeats 1000000 in
theorem ask_s (s : ByteArray) (l : List Int) (v : Value) (c : Int) (w : World) (h : IntsAt w v l) (hm : l.length ≤ 1048576) (hs : s.size ≤ 1048576) :
    Calls Tryz.prog 166 #[.string s, v, .int .i64 c] w fun e w' => e = .returned (.bool (unkOk s l c)) ∧ Below w.heap.size w w' := by
  have HR := Lib.hid (rises_s l v 0 (8 * s.size - 1) w h (by omega))
  obtain ⟨A, cA, rfl, _⟩ := h
  have HF : Hid (unkOk s l c = ((inB s.size 1 64 && inB c 0 65535) && (decide (l.length ≤ 64) && risesB 0 (8 * s.size - 1) l))) := Lib.hid rfl
  have hdl : decide ((l.length : Int) ≤ 64) = decide (l.length ≤ 64) := by apply decide_eq_decide.2; omega
  generalize risesB 0 (8 * s.size - 1) l = b4 at *
  cases h1 : inB s.size 1 64
  · go_enter Tryz.func166, Tryz.ntmps166
    go_wp2_with (first | (go_at_call 43; refine (in_s _ _ _ _).mono ?_; rintro e w1 ⟨rfl, rfl⟩) | (go_at_call 139; refine (HR.out).mono ?_; rintro e w1 ⟨rfl, hb1⟩) | (go_at_call 138; go_in))
    go_ret
    exact ⟨ret_bool (by rw [HF.out, h1]; rfl), Below.refl _ _⟩
  · by_cases h3 : l.length ≤ 64
    · rw [decide_eq_true h3] at hdl
      cases b4
      · go_enter Tryz.func166, Tryz.ntmps166
        go_wp2_with (first | (go_at_call 43; refine (in_s _ _ _ _).mono ?_; rintro e w1 ⟨rfl, rfl⟩) | (go_at_call 139; refine (HR.out).mono ?_; rintro e w1 ⟨rfl, hb1⟩) | (go_at_call 138; go_in))
        go_ret
        exact ⟨ret_bool (by rw [HF.out, h1, decide_eq_true h3]; cases inB c 0 65535 <;> rfl), hb1⟩
      · go_enter Tryz.func166, Tryz.ntmps166
        go_wp2_with (first | (go_at_call 43; refine (in_s _ _ _ _).mono ?_; rintro e w1 ⟨rfl, rfl⟩) | (go_at_call 139; refine (HR.out).mono ?_; rintro e w1 ⟨rfl, hb1⟩) | (go_at_call 138; go_in))
        go_ret
        exact ⟨ret_bool (by rw [HF.out, h1, decide_eq_true h3]; cases inB c 0 65535 <;> rfl), hb1⟩
    · rw [decide_eq_false h3] at hdl
      go_enter Tryz.func166, Tryz.ntmps166
      go_wp2_with (first | (go_at_call 43; refine (in_s _ _ _ _).mono ?_; rintro e w1 ⟨rfl, rfl⟩) | (go_at_call 139; refine (HR.out).mono ?_; rintro e w1 ⟨rfl, hb1⟩) | (go_at_call 138; go_in))
      go_ret
      exact ⟨ret_bool (by rw [HF.out, h1, decide_eq_false h3]; cases inB c 0 65535 <;> rfl), Below.refl _ _⟩
theorem take_next {l : List Nat} {k x : Nat} (h : l[k]? = some x) : l.take (k + 1) = l.take k ++ [x] := by
  obtain ⟨hk, rfl⟩ := List.getElem?_eq_some_iff.1 h
  rw [List.take_succ_eq_append_getElem hk]
theorem clrN_take {l u : List Nat} {k b : Nat} (h : u[k]? = some b) : clrN l (u.take (k + 1)) = clr1 (clrN l (u.take k)) b := by rw [take_next h, clrN_snoc]
def clrQ1 (s : ByteArray) (u : List Nat) (w : World) (e : Ending) (w' : World) : Prop := e = .returned (.string (strN (clrN (bts s) u))) ∧ Below w.heap.size w w'
def clrQ2 (s : ByteArray) (u : List Nat) (w : World) (e : Ending) (w' : World) : Prop := ∃ c, e = .returned (.slice (some ⟨w.heap.size, 0, none⟩) s.size c) ∧ Buf w' w.heap.size (clrN (bts s) u) ∧ w.heap.size < w'.heap.size ∧ Below w.heap.size w w'
set_option maxRecDepth 20000 in
set_option maxHeartbeats 2000000 in
theorem clear_i (s : ByteArray) (u : List Nat) (v : Value) (w : World) (h : IntsAt w v (intsN u)) (hu : ∀ b ∈ u, b < 8 * s.size) (hs : s.size ≤ 1048576) (hm : u.length ≤ 1048576) :
    Calls Tryz.prog 182 #[.string s, v] w fun e w' => clrQ1 s u w e w' := by
  unfold clrQ1
  obtain ⟨cb, wb, hcv, hbuf, hb0, hwz⟩ := buf_of_str w s
  obtain ⟨A, cA, rfl, hA⟩ := h
  rw [intsN_len]
  have hl := bts_len s
  by_cases hu0 : u = []
  · subst hu0
    have hst := (hbuf.str (n := s.size) (c := cb) hl)
    go_enter Tryz.func182, Tryz.ntmps182
    go_wp2
    refine wp_loop_once ?_
    go_wp2
    go_ret
    first | exact ⟨rfl, hb0⟩ | exact ⟨_, rfl, hbuf, by omega, hb0⟩
  · obtain ⟨g, rfl, hg, hc⟩ := hA.resolve_left (by simpa [intsN] using hu0)
    have HC := Lib.hid hc
    have HU := Lib.hid hu
    clear hA hc hu
    go_enter Tryz.func182, Tryz.ntmps182
    go_wp2
    go_loopw [12] (fun i wr => ∃ k : Nat, k ≤ u.length ∧ i = .int .i64 k ∧ Below w.heap.size w wr ∧ w.heap.size < wr.heap.size ∧ Hid (Buf wr w.heap.size (clrN (bts s) (u.take k)))) (fun i _ => u.length - (intOf i).toNat)
    case atStart => exact ⟨0, by omega, rfl, hb0, by omega, Lib.hid (by simpa [clrN] using hbuf)⟩
    case round =>
      obtain ⟨k, hk, rfl, hb, hz, HB⟩ := hrel
      by_cases hlt : k < u.length
      · obtain ⟨b, hbk⟩ : ∃ b, u[k]? = some b := ⟨u[k], List.getElem?_eq_getElem hlt⟩
        have hbs := HU.out b (List.mem_of_getElem? hbk)
        have pk := (hb.cell (p := ⟨g, k, none⟩) hg).trans (HC.out k _ (intsN_get hbk))
        obtain ⟨kk, r, hkk, hr, hr8, hbit⟩ := bit_split b
        have hll : (clrN (bts s) (u.take k)).length = s.size := by rw [clrN_len]; exact hl
        obtain ⟨x, hx⟩ : ∃ x, (clrN (bts s) (u.take k))[kk]? = some x := ⟨_, List.getElem?_eq_getElem (by omega)⟩
        obtain ⟨p1, p2⟩ := HB.out kk x hx
        have hx8 := clrN_lt bts_lt x (List.mem_of_getElem? hx)
        have HS := Lib.hid (HB.out.set (clrX x r) hx)
        rw [← clr1_at hkk hr hx, ← clrN_take hbk] at HS
        have e1 : ((b : Int) / 8) = (kk : Int) := by omega
        have e2 : ((b : Int) % 8) = (r : Int) := by omega
        have e3 : ((b : Int).tmod 8) = (r : Int) := by rw [Int.tmod_eq_emod_of_nonneg (by omega)]; omega
        have hww : IntKind.i64.wrap (kk : Int) = kk := by rw [IntKind.wrap_i64]; omega
        have hwr : IntKind.i64.wrap (r : Int) = r := by rw [IntKind.wrap_i64]; omega
        have hxs := andnot_sh x r hx8 hr8
        have hkk2 : kk < s.size := by omega
        have hxs8 : bits .andNot .u8 (x : Int) (128 / 2 ^ min r 8) = ((clrX x r : Nat) : Int) := by rw [Nat.min_eq_left (by omega)]; exact hxs
        clear hbk hkk hr hbit hx hll
        go_wp2
        have q0 := (show ({ wr with drawn := wr.drawn + 1 } : World).cell? _ = _ from pk)
        have q1 := (show ({ wr with drawn := wr.drawn + 1 } : World).cell? _ = _ from p1)
        have q2 := (show ({ wr with drawn := wr.drawn + 1 } : World).frozen? _ = _ from p2)
        go_still_tail 10, (by kernel_rfl)
        go_wp2
        go_roundw
        case rel => exact ⟨k + 1, by omega, by go_num, (by repeat (first | exact Below.refl _ _ | refine Below.alloc ?_ (by first | omega | (simp; done) | (simp; omega)) _ | apply Below.drew | apply below_drewN | refine Below.setCell ?_ (by first | omega | (simp; done) | (simp; omega)) _ | refine Below.trans ?_ (Below.mono (by assumption) (by first | omega | (simp; done) | (simp; omega))))), by simp; omega, Lib.hid (by first | exact HS.out.block rfl | (rw [hxs8]; exact HS.out.block rfl))⟩
        case measure => simp [intOf]; omega
      · obtain rfl : k = u.length := by omega
        have HB2 := HB.out
        rw [List.take_length] at HB2
        have hst := HB2.str (n := s.size) (c := cb) (by rw [clrN_len]; exact hl)
        go_wp2
        go_ret
        first | exact ⟨rfl, hb⟩ | exact ⟨_, rfl, HB2, by omega, hb⟩
set_option maxRecDepth 20000 in
set_option maxHeartbeats 2000000 in
theorem clear_s (s : ByteArray) (u : List Nat) (v : Value) (w : World) (h : IntsAt w v (intsN u)) (hu : ∀ b ∈ u, b < 8 * s.size) (hs : s.size ≤ 1048576) (hm : u.length ≤ 1048576) :
    Calls Tryz.prog 170 #[.string s, v] w fun e w' => clrQ2 s u w e w' := by
  unfold clrQ2
  obtain ⟨cb, wb, hcv, hbuf, hb0, hwz⟩ := buf_of_str w s
  obtain ⟨A, cA, rfl, hA⟩ := h
  rw [intsN_len]
  have hl := bts_len s
  by_cases hu0 : u = []
  · subst hu0
    have hst := (hbuf.str (n := s.size) (c := cb) hl)
    go_enter Tryz.func170, Tryz.ntmps170
    go_wp2
    refine wp_loop_once ?_
    go_wp2
    go_ret
    first | exact ⟨rfl, hb0⟩ | exact ⟨_, rfl, hbuf, by omega, hb0⟩
  · obtain ⟨g, rfl, hg, hc⟩ := hA.resolve_left (by simpa [intsN] using hu0)
    have HC := Lib.hid hc
    have HU := Lib.hid hu
    clear hA hc hu
    go_enter Tryz.func170, Tryz.ntmps170
    go_wp2
    go_loopw [6] (fun i wr => ∃ k : Nat, k ≤ u.length ∧ i = .int .i64 k ∧ Below w.heap.size w wr ∧ w.heap.size < wr.heap.size ∧ Hid (Buf wr w.heap.size (clrN (bts s) (u.take k)))) (fun i _ => u.length - (intOf i).toNat)
    case atStart => exact ⟨0, by omega, rfl, hb0, by omega, Lib.hid (by simpa [clrN] using hbuf)⟩
    case round =>
      obtain ⟨k, hk, rfl, hb, hz, HB⟩ := hrel
      by_cases hlt : k < u.length
      · obtain ⟨b, hbk⟩ : ∃ b, u[k]? = some b := ⟨u[k], List.getElem?_eq_getElem hlt⟩
        have hbs := HU.out b (List.mem_of_getElem? hbk)
        have pk := (hb.cell (p := ⟨g, k, none⟩) hg).trans (HC.out k _ (intsN_get hbk))
        obtain ⟨kk, r, hkk, hr, hr8, hbit⟩ := bit_split b
        have hll : (clrN (bts s) (u.take k)).length = s.size := by rw [clrN_len]; exact hl
        obtain ⟨x, hx⟩ : ∃ x, (clrN (bts s) (u.take k))[kk]? = some x := ⟨_, List.getElem?_eq_getElem (by omega)⟩
        obtain ⟨p1, p2⟩ := HB.out kk x hx
        have hx8 := clrN_lt bts_lt x (List.mem_of_getElem? hx)
        have HS := Lib.hid (HB.out.set (clrX x r) hx)
        rw [← clr1_at hkk hr hx, ← clrN_take hbk] at HS
        have e1 : ((b : Int) / 8) = (kk : Int) := by omega
        have e2 : ((b : Int) % 8) = (r : Int) := by omega
        have e3 : ((b : Int).tmod 8) = (r : Int) := by rw [Int.tmod_eq_emod_of_nonneg (by omega)]; omega
        have hww : IntKind.i64.wrap (kk : Int) = kk := by rw [IntKind.wrap_i64]; omega
        have hwr : IntKind.i64.wrap (r : Int) = r := by rw [IntKind.wrap_i64]; omega
        have hxs := andnot_sh x r hx8 hr8
        have hkk2 : kk < s.size := by omega
        have hxs8 : bits .andNot .u8 (x : Int) (128 / 2 ^ min r 8) = ((clrX x r : Nat) : Int) := by rw [Nat.min_eq_left (by omega)]; exact hxs
        clear hbk hkk hr hbit hx hll
        go_wp2
        have q0 := (show ({ wr with drawn := wr.drawn + 1 } : World).cell? _ = _ from pk)
        have q1 := (show ({ wr with drawn := wr.drawn + 1 } : World).cell? _ = _ from p1)
        have q2 := (show ({ wr with drawn := wr.drawn + 1 } : World).frozen? _ = _ from p2)
        go_still_tail 17, (by kernel_rfl)
        go_wp2
        go_roundw
        case rel => exact ⟨k + 1, by omega, by go_num, (by repeat (first | exact Below.refl _ _ | refine Below.alloc ?_ (by first | omega | (simp; done) | (simp; omega)) _ | apply Below.drew | apply below_drewN | refine Below.setCell ?_ (by first | omega | (simp; done) | (simp; omega)) _ | refine Below.trans ?_ (Below.mono (by assumption) (by first | omega | (simp; done) | (simp; omega))))), by simp; omega, Lib.hid (by first | exact HS.out.block rfl | (rw [hxs8]; exact HS.out.block rfl))⟩
        case measure => simp [intOf]; omega
      · obtain rfl : k = u.length := by omega
        have HB2 := HB.out
        rw [List.take_length] at HB2
        have hst := HB2.str (n := s.size) (c := cb) (by rw [clrN_len]; exact hl)
        go_wp2
        go_ret
        first | exact ⟨rfl, hb⟩ | exact ⟨_, rfl, HB2, by omega, hb⟩
end Go.Proofs.YtfcdienphillnaaGreat
namespace Go.Proofs.YtfcdienphillnaaGreat
set_option linter.unusedVariables false
set_option linter.unusedSimpArgs false
open Go.RowKit
theorem IntsAt.below {w w' : World} {v : Value} {l : List Int} (h : IntsAt w v l) (hb : Below w.heap.size w w') : IntsAt w' v l := by
  obtain ⟨A, c, rfl, hA⟩ := h
  refine ⟨A, c, rfl, ?_⟩
  rcases hA with hA | ⟨g, rfl, hg, hc⟩
  · exact .inl hA
  · exact .inr ⟨g, rfl, Nat.lt_of_lt_of_le hg hb.size, fun k x hk => (hb.cell (p := ⟨g, k, none⟩) hg).trans (hc k x hk)⟩
theorem crcl_i (l : List Nat) (v : Nat) (w : World) (hl : l.length ≤ 2097152) (hlb : ∀ x ∈ l, x < 256) (hv : v < 65536) :
    Calls Tryz.prog 122 #[.string (strN l), .int .i64 v] w fun e w' => e = .returned (.int .i64 (crcN l v)) ∧ w = w' := by
  have := crcn_i (strN l) v w (by rw [strN_size]; exact hl) hv
  rwa [bts_strN hlb] at this
theorem getD_some {l : List Nat} {k x : Nat} (h : l[k]? = some x) : l.getD k 0 = x := by rw [List.getD_eq_getElem?_getD, h]; rfl
set_option maxRecDepth 20000 in
set_option maxHeartbeats 8000000 in
theorem rows_i (s : ByteArray) (u : List Nat) (v : Value) (crc : Nat) (w : World) (h : IntsAt w v (intsN u)) (hu : ∀ b ∈ u, b < 8 * s.size) (hs : s.size ≤ 64) (hm : u.length ≤ 64) (hc : crc < 65536) :
    Calls Tryz.prog 179 #[.string s, v, .int .i64 crc] w fun e w' => RetL (rc .i64) 2 224 w (rowsR s.size u (crcN (clrN (bts s) u) 65535 ^^^ crc)) e w' := by
  obtain ⟨i0, hi, hz0, hz1, hz2⟩ := info_parts rowi_info
  have HI := Lib.hid h
  have HU := Lib.hid hu
  have HCL := Lib.hid (fun w' (hb : Below w.heap.size w w') => clear_i s u v w' (h.below hb) hu (by omega) (by omega))
  have HCR := Lib.hid (fun w' => crcl_i (clrN (bts s) u) 65535 w' (by rw [clrN_len, bts_len]; omega) (clrN_lt bts_lt) (by omega))
  have hcn := crcN_lt (clrN (bts s) u) 65535 (by omega)
  generalize crcN (clrN (bts s) u) 65535 = cn at *
  have hx := i64_xor_nat cn crc (by omega) (by omega)
  have hrl : cn ^^^ crc < 65536 := Nat.xor_lt_two_pow (n := 16) hcn hc
  generalize cn ^^^ crc = rest at *
  obtain ⟨A, cA, rfl, _⟩ := h
  simp only [intsN_len] at HCL ⊢
  clear hu
  go_enter Tryz.func179, Tryz.ntmps179
  go_wp2_with (at_make; refine wpList_make_full _ rfl _ _ _ rfl w.heap.size 224 i0 (.agg #[.int .u64 0, .int .i64 0]) 2 Tryz.underlying218 hi hz0 hz1 .i64 .i64 _ _ 16 rfl rfl rfl rfl (by rw [hz2]; omega) (by unfold maxLen; omega) (Nat.le_refl _) ?_; intro w1 hown hgrow)
  have hb0 : Below w.heap.size w w1 := (Below.refl _ _).grown hgrow (Nat.le_refl _) (by simp)
  rw [made_flat (f := rc .i64) (rc_len .i64) (by omega) (⟨0, false⟩ : Rw) (Value.agg #[.int .u64 0, .int .i64 0]).cells rfl] at hown
  have HO1 : Hid (RowL .i64 224 w.heap.size w1 (.slice (some ⟨w.heap.size, 0, none⟩) 16 16) (rowsB rest 0)) := Lib.hid hown
  clear hgrow hown
  go_wp2_with (fail)
  refine (HCL.out _ hb0).mono ?_; rintro e w2 ⟨rfl, hb2⟩
  go_wp2_with (fail)
  refine (HCR.out _).mono ?_; rintro e w3 ⟨rfl, rfl⟩
  have HO2 := Lib.hid (OwnL.below HO1.out hb2)
  have hb02 := hb0.trans (hb2.mono hb0.size)
  clear HO1 HCL HCR hb2 hb0
  go_wp2
  go_loopw [23] (fun i wr => ∃ k : Nat, k ≤ 16 ∧ i = .int .i64 k ∧ Below w.heap.size w wr ∧ Hid (RowL .i64 224 w.heap.size wr (.slice (some ⟨w.heap.size, 0, none⟩) 16 16) (rowsB rest k))) (fun i _ => 16 - (intOf i).toNat)
  case atStart => exact ⟨0, by omega, rfl, hb02, HO2⟩
  case round =>
    obtain ⟨k, hk, rfl, hb, HO⟩ := hrel
    by_cases hlt : k < 16
    · obtain ⟨j, hj⟩ : ∃ j, j + k = 15 := ⟨15 - k, by omega⟩
      have e1 : (15 : Int) - (k : Int) = (j : Int) := by omega
      have ej : 15 - k = j := by omega
      have hbv := i64_bit rest j (by omega)
      have hg := (World.ownsRow.lt HO.out _ rfl).2
      have q1 := OwnL.at1 (rc_len .i64) HO.out (rowsB_get hlt) (j := 1) rfl
      have z0 := fun j => OwnL.frozen (j := j) HO.out
      have HS := Lib.hid (OwnL.set1 (rc_len .i64) HO.out (rowsB_get hlt) (j := 1) (a' := ⟨0, rest.testBit (15 - k)⟩) (u := .int .i64 (bi (rest.testBit (15 - k)))) (by omega) rfl)
      rw [rowsB_set, ej] at HS
      clear ej
      go_wp2
      go_roundw
      case rel => exact ⟨k + 1, by omega, by go_num, (by repeat (first | exact Below.refl _ _ | refine Below.alloc ?_ (by first | omega | (simp; done) | (simp; omega)) _ | apply Below.drew | apply below_drewN | refine Below.setCell ?_ (by first | omega | (simp; done) | (simp; omega)) _ | refine Below.trans ?_ (Below.mono (by assumption) (by first | omega | (simp; done) | (simp; omega))))), HS⟩
      case measure => simp [intOf]; omega
    · obtain rfl : k = 16 := by omega
      rw [rowsB_end s.size u] at HO
      have hbo := hb
      generalize hwo : wr = wo at *; clear hwo
      clear HO2 hb02
      go_wp2
      go_loopw [38] (fun i wr => ∃ k : Nat, k ≤ u.length ∧ i = .int .i64 k ∧ Below w.heap.size w wr ∧ Hid (RowL .i64 224 w.heap.size wr (.slice (some ⟨w.heap.size, 0, none⟩) 16 16) (rowsP s.size u rest k 0))) (fun i _ => u.length - (intOf i).toNat)
      case atStart => exact ⟨0, by omega, rfl, hbo, HO⟩
      case round =>
        clear HO hbo
        obtain ⟨k, hk, rfl, hb, HO⟩ := hrel
        by_cases hltk : k < u.length
        · obtain ⟨b, hbk⟩ : ∃ b, u[k]? = some b := ⟨u[k], List.getElem?_eq_getElem hltk⟩
          have hbs := HU.out b (List.mem_of_getElem? hbk)
          have HB := Lib.hid (getD_some hbk)
          obtain ⟨A', c', hv, hA⟩ := HI.out
          injection hv with hv _ hcap
          subst hcap
          obtain ⟨g, hg1, hg, hcc⟩ := hA.resolve_left (by intro h0; have := congrArg List.length h0; rw [intsN_len] at this; simp only [List.length_nil] at this; omega)
          rw [hg1] at hv
          subst hv
          have pk := (hb.cell (p := ⟨g, k, none⟩) hg).trans (hcc k _ (intsN_get hbk))
          have HE := Lib.hid (fun w' => eff_i s.size b w' hs hbs)
          have hel := effN_lt s.size b
          have HM1 := Lib.hid (fun i hi => maskR_yes (n := s.size) (i := i) HB.out hi)
          have HM0 := Lib.hid (fun i hi => maskR_no (n := s.size) (i := i) HB.out hi)
          generalize effN s.size b = ef at *
          clear hcc hbk HB hg1 hA
          go_wp2_with (fail)
          refine (HE.out _).mono ?_; rintro e w4 ⟨rfl, hb4⟩
          have HO4 := Lib.hid (OwnL.below HO.out hb4)
          have hb04 := hb.trans (hb4.mono hb.size)
          clear HO hb hb4 HE pk
          go_wp2
          go_loopw [49] (fun i wr => ∃ j : Nat, j ≤ 16 ∧ i = .int .i64 j ∧ Below w.heap.size w wr ∧ Hid (RowL .i64 224 w.heap.size wr (.slice (some ⟨w.heap.size, 0, none⟩) 16 16) (rowsP s.size u rest k j))) (fun i _ => 16 - (intOf i).toNat)
          case atStart => exact ⟨0, by omega, rfl, hb04, HO4⟩
          case round =>
            clear HO4 hb04
            obtain ⟨i, hi2, rfl, hb, HO⟩ := hrel
            by_cases hlt : i < 16
            · obtain ⟨j, hj⟩ : ∃ j, j + i = 15 := ⟨15 - i, by omega⟩
              have e1 : (15 : Int) - (i : Int) = (j : Int) := by omega
              have ej : 15 - i = j := by omega
              have hbv := i64_bit ef j (by omega)
              cases hbit : ef.testBit j
              · rw [hbit, bi_f] at hbv
                have HM := Lib.hid (rowsP_same (rest := rest) (HM0.out i (by rw [ej]; exact hbit)))
                clear ej
                go_wp2
                go_roundw
                case rel => exact ⟨i + 1, by omega, by go_num, hb, by rw [HM.out]; exact HO⟩
                case measure => simp [intOf]; omega
              · rw [hbit, bi_t] at hbv
                have hg3 := (World.ownsRow.lt HO.out _ rfl).2
                have q1 := OwnL.at1 (rc_len .i64) HO.out (rowsP_get hlt) (j := 0) rfl
                have z0 := fun j => OwnL.frozen (j := j) HO.out
                have HS := Lib.hid (OwnL.set1 (rc_len .i64) HO.out (rowsP_get hlt) (j := 0) (a' := ⟨maskR s.size u i (k + 1), rest.testBit (15 - i)⟩) (u := .int .u64 (maskR s.size u i (k + 1) : Nat)) (by omega) rfl)
                rw [rowsP_set] at HS
                simp only [Nat.add_zero] at HS
                have hmb := maskR_64 s.size u i (K := k) (by omega)
                have hpw : 2 ^ k < 18446744073709551616 := Nat.lt_of_lt_of_le (Nat.pow_lt_pow_right (by omega) (by omega : k < 64)) (by decide)
                have hor := u64_or_nat (maskR s.size u i k) (2 ^ k) hmb hpw
                rw [← HM1.out i (by rw [ej]; exact hbit)] at hor
                rw [← wrap_pow k (by omega)] at hor
                generalize maskR s.size u i (k + 1) = m1 at *
                generalize maskR s.size u i k = m0 at *
                have r1 : wr.drew.cell? ⟨w.heap.size, i * 2, none⟩ = some (.int .u64 (m0 : Nat)) := by simpa using q1
                have r0 := fun j => (show wr.drew.frozen? ⟨w.heap.size, j, none⟩ = false from z0 j)
                clear ej q1 z0
                go_wp2
                go_still_tail 10, (by kernel_rfl)
                go_wp2
                go_roundw
                case rel => exact ⟨i + 1, by omega, by go_num, (by repeat (first | exact Below.refl _ _ | refine Below.alloc ?_ (by first | omega | (simp; done) | (simp; omega)) _ | apply Below.drew | apply below_drewN | refine Below.setCell ?_ (by first | omega | (simp; done) | (simp; omega)) _ | refine Below.trans ?_ (Below.mono (by assumption) (by first | omega | (simp; done) | (simp; omega))))), Lib.hid (OwnL.below HS.out ((Qt.refl _).drew.below _))⟩
                case measure => simp [intOf]; omega
            · obtain rfl : i = 16 := by omega
              rw [rowsP_all] at HO
              go_wp2
              go_roundw
              case rel => (repeat apply Exists.intro); exact ⟨⟨k + 1, by omega, by go_num, hb, HO⟩, rfl⟩
              case measure => simp [intOf]; omega
        · obtain rfl : k = u.length := by omega
          rw [rowsP_end] at HO
          go_wp2
          go_ret
          exact ⟨_, rfl, HO.out, hb⟩
end Go.Proofs.YtfcdienphillnaaGreat
namespace Go.Proofs
open Go.Shelf
def Tryz.lays129_ren : Go.Shelf.Ren := ⟨fun | 129 => 162 | n => n, fun | 53 => 143 | 3 => 3 | 4 => 4 | 46 => 150 | 5 => 5 | 9 => 9 | n => n, fun | n => n⟩
theorem Tryz.lays129 : Go.Proofs.Lays.n129 Tryz.prog Tryz.lays129_ren := {
  mixed := by kernel_rfl
  f129 := Tryz.func162.trans (congrArg some (by kernel_rfl))
  t3 := Tryz.underlying3
  a3 := Tryz.isAgg3
  z3 := Tryz.sizeOf3
  v3 := Tryz.zeroValue3
  t4 := Tryz.underlying4
  a4 := Tryz.isAgg4
  z4 := Tryz.sizeOf4
  v4 := Tryz.zeroValue4
  t5 := Tryz.underlying5
  a5 := Tryz.isAgg5
  z5 := Tryz.sizeOf5
  v5 := Tryz.zeroValue5
  t9 := Tryz.underlying9
  a9 := Tryz.isAgg9
  z9 := Tryz.sizeOf9
  v9 := Tryz.zeroValue9
  t46 := Tryz.underlying150
  a46 := Tryz.isAgg150
  z46 := Tryz.sizeOf150
  v46 := Tryz.zeroValue150
  t53 := Tryz.underlying143
  a53 := Tryz.isAgg143
  z53 := Tryz.sizeOf143
  v53 := Tryz.zeroValue143 }
/-- bits.Len64: "Len64 returns the minimum number of bits required to represent x; the result is 0 for x == 0.": IT RETURNS 'Lib.bitLen x'; the world is as it was. ('h0', 'h1': x is a uint64.) (LAID: no walk: one application.) -/
theorem Tryz.bits_Len64 (x : Int) (w : World) (h0 : 0 ≤ x) (h1 : x ≤ 18446744073709551615) :
    Calls Tryz.prog 162 #[.int .u64 x] w fun e w' => e = .returned (.int .i64 (Lib.bitLen x.toNat)) ∧ w' = w := Any.bits_Len64 Tryz.lays129 x w h0 h1
end Go.Proofs
namespace Go.Proofs.YtfcdienphillnaaGreat
set_option linter.unusedVariables false
set_option linter.unusedSimpArgs false
open Go.RowKit
theorem bitLen_top (m : Nat) (h0 : m ≠ 0) (h : m < 18446744073709551616) : Lib.bitLen m = top m + 1 := by
  induction m using Nat.strongRecOn with
  | _ m ih =>
    rw [Lib.bitLen_half m h0 h]
    unfold top
    rw [Nat.log2_def]
    by_cases h2 : 2 ≤ m
    · rw [if_pos h2, ih (m / 2) (by omega) (by omega) (by omega)]
      show 1 + (top (m / 2) + 1) = top (m / 2) + 1 + 1
      omega
    · rw [if_neg h2]
      obtain rfl : m = 1 := by omega
      rfl
theorem top_lt {m : Nat} (h0 : m ≠ 0) (h : m < 18446744073709551616) : top m < 64 := by
  apply Classical.byContradiction; intro hk
  have := top_on m h0
  rw [Nat.testBit_lt_two_pow (Nat.lt_of_lt_of_le (show m < 2 ^ 64 from h) (Nat.pow_le_pow_right (by omega) (by omega)))] at this; cases this
set_option maxHeartbeats 1000000 in
theorem top_i (m : Nat) (w : World) (h0 : m ≠ 0) (h : m < 18446744073709551616) :
    Calls Tryz.prog 180 #[.int .u64 m] w fun e w' => e = .returned (.int .u64 ((2 ^ top m : Nat) : Int)) ∧ w = w' := by
  have HL := Lib.hid (Tryz.bits_Len64 (m : Int) w (by omega) (by omega))
  rw [Int.toNat_natCast, bitLen_top m h0 h] at HL
  have ht := top_lt h0 h
  generalize top m = t at *
  have HW := Lib.hid (wrap_pow t ht)
  have e1 : ((t + 1 : Nat) : Int) - 1 = (t : Int) := by omega
  go_enter Tryz.func180, Tryz.ntmps180
  go_wp2_with (fail)
  refine HL.out.mono ?_; rintro e w1 ⟨rfl, rfl⟩
  go_wp2
  go_ret
  exact ⟨ret_int HW.out, rfl⟩
end Go.Proofs.YtfcdienphillnaaGreat
namespace Go.Proofs.YtfcdienphillnaaGreat
set_option linter.unusedVariables false
set_option linter.unusedSimpArgs false
open Go.RowKit
set_option maxRecDepth 20000 in
set_option maxHeartbeats 8000000 in
theorem rows_s (s : ByteArray) (u : List Nat) (v : Value) (crc : Nat) (w : World) (h : IntsAt w v (intsN u)) (hu : ∀ b ∈ u, b < 8 * s.size) (hs : s.size ≤ 64) (hm : u.length ≤ 64) (hc : crc < 65536) :
    Calls Tryz.prog 168 #[.string s, v, .int .i64 crc] w fun e w' => RetL (rc .u64) 2 210 w (rowsR s.size u (crcN (clrN (bts s) u) 65535 ^^^ crc)) e w' := by
  obtain ⟨i0, hi, hz0, hz1, hz2⟩ := info_parts rowu_info
  have HI := Lib.hid h
  have HU := Lib.hid hu
  have HCL := Lib.hid (fun w' (hb : Below w.heap.size w w') => clear_s s u v w' (h.below hb) hu (by omega) (by omega))
  have HCR := Lib.hid (fun g c w' (hB : Buf w' g (clrN (bts s) u)) => crcb_s g c s.size (clrN (bts s) u) w' hB (by rw [clrN_len, bts_len]) (by omega) (clrN_lt bts_lt))
  have hcn := crcN_lt (clrN (bts s) u) 65535 (by omega)
  generalize crcN (clrN (bts s) u) 65535 = cn at *
  have hx := i64_xor_nat cn crc (by omega) (by omega)
  have hrl : cn ^^^ crc < 65536 := Nat.xor_lt_two_pow (n := 16) hcn hc
  generalize cn ^^^ crc = rest at *
  obtain ⟨A, cA, rfl, hA⟩ := h
  simp only [intsN_len] at HCL ⊢
  clear hu
  go_enter Tryz.func168, Tryz.ntmps168
  go_wp2_with (fail)
  refine (HCL.out _ (Below.refl _ _)).mono ?_; rintro e w2 ⟨c2, rfl, hB2, hz2', hb2⟩
  go_wp2_with (fail)
  refine (HCR.out _ _ _ hB2).mono ?_; rintro e w3 ⟨rfl, rfl⟩
  have hb02 : Below w.heap.size w w2 := hb2
  have HO2 : Hid (RowL .u64 210 w.heap.size (w2.alloc (.cells #[] 210)) (.slice (some ⟨w2.heap.size, 0, none⟩) 0 0) (rowsT rest 0)) := Lib.hid (OwnL.of_empty w2 (by omega))
  clear HCL HCR hb2 hB2
  go_wp2
  go_loopw [9, 8] (fun i x wr => ∃ k : Nat, k ≤ 16 ∧ i = .int .i64 k ∧ Below w.heap.size w wr ∧ Hid (RowL .u64 210 w.heap.size wr x (rowsT rest k))) (fun i _ _ => 16 - (intOf i).toNat)
  case atStart => exact ⟨0, by omega, rfl, (by repeat (first | exact Below.refl _ _ | refine Below.alloc ?_ (by first | omega | (simp; done) | (simp; omega)) _ | apply Below.drew | apply below_drewN | refine Below.setCell ?_ (by first | omega | (simp; done) | (simp; omega)) _ | refine Below.trans ?_ (Below.mono (by assumption) (by first | omega | (simp; done) | (simp; omega))))), HO2⟩
  case round =>
    obtain ⟨k, hk, rfl, hb, HO⟩ := hrel
    by_cases hlt : k < 16
    · obtain ⟨j, hj⟩ : ∃ j, j + k = 15 := ⟨15 - k, by omega⟩
      have e1 : (15 : Int) - (k : Int) = (j : Int) := by omega
      have ej : 15 - k = j := by omega
      have hbv := i64_bit rest j (by omega)
      have hbv2 : bits .and .i64 ((rest : Int) / 2 ^ min j 64) 1 = bi (rest.testBit j) := by rw [Nat.min_eq_left (by omega)]; exact hbv
      have hwu := bi_wrap_u (rest.testBit j)
      have hzr := hb.size
      have HN := Lib.hid (rowsT_next rest k)
      rw [ej] at HN
      generalize rest.testBit j = b at *
      obtain ⟨Ax, cx, hvx, _⟩ := OwnL.shape HO.out
      rw [rowsT_len] at hvx
      subst hvx
      have htl : (rowsT rest k).length ≤ 16 := by rw [rowsT_len]; omega
      clear ej
      go_wp2_with (at_builtin; refine wpList_app1 (rc .u64) 2 (rc_len .u64) _ rfl _ _ _ rfl w.heap.size 210 i0 (.agg #[.int .u64 0, .int .u64 0]) 16 Tryz.underlying176 hi hz0 hz1 hz2 rfl (by decide) _ (rowsT rest k) rfl (HO.out.alloc _) _ 1 ⟨0, b⟩ rfl ?_ (rc_one .u64 _) (by omega) (by omega) (by simp; omega) ?_; (· exact rowc_news .u64 0 b (by simp) (by simp)); intro v' w8 how8 hg8; have hg8' : Below w.heap.size w w8 := own_grown_below (HO.out.alloc (.cells #[.int .u64 0, .int .u64 (bi b)] 210)) (Below.alloc hb hzr _) hg8 (Nat.le_refl _) (by simp; omega); clear hg8)
      go_roundw
      case rel => exact ⟨k + 1, by omega, by go_num, hg8', by rw [HN.out]; exact Lib.hid how8⟩
      case measure => simp [intOf]; omega
    · obtain rfl : k = 16 := by omega
      rw [rowsT_end s.size u] at HO
      have hbo := hb
      obtain ⟨Ax, cx, hvx, hAx⟩ := OwnL.shape HO.out
      obtain ⟨gx, rfl, _, _⟩ := hAx.resolve_left (by intro h0; have := congrArg List.length h0; rw [rowsP_len] at this; simp at this)
      rw [rowsP_len] at hvx
      subst hvx
      generalize hwo : wr = wo at *; clear hwo
      clear HO2 hb02 hAx
      go_wp2
      go_loopw [10] (fun i wr => ∃ k : Nat, k ≤ u.length ∧ i = .int .i64 k ∧ Below w.heap.size w wr ∧ Hid (RowL .u64 210 w.heap.size wr (.slice (some ⟨gx, 0, none⟩) 16 cx) (rowsP s.size u rest k 0))) (fun i _ => u.length - (intOf i).toNat)
      case atStart => exact ⟨0, by omega, rfl, hbo, HO⟩
      case round =>
        clear HO hbo
        obtain ⟨k, hk, rfl, hb, HO⟩ := hrel
        by_cases hltk : k < u.length
        · obtain ⟨b, hbk⟩ : ∃ b, u[k]? = some b := ⟨u[k], List.getElem?_eq_getElem hltk⟩
          have hbs := HU.out b (List.mem_of_getElem? hbk)
          have HB := Lib.hid (getD_some hbk)
          obtain ⟨g, rfl, hg, hcc⟩ := hA.resolve_left (by intro h0; have := congrArg List.length h0; rw [intsN_len] at this; simp only [List.length_nil] at this; omega)
          have pk := (hb.cell (p := ⟨g, k, none⟩) hg).trans (hcc k _ (intsN_get hbk))
          have HE := Lib.hid (fun w' => eff_s s.size b w' hs hbs)
          have hel := effN_lt s.size b
          have HM1 := Lib.hid (fun i hi => maskR_yes (n := s.size) (i := i) HB.out hi)
          have HM0 := Lib.hid (fun i hi => maskR_no (n := s.size) (i := i) HB.out hi)
          generalize effN s.size b = ef at *
          clear hcc hbk HB
          go_wp2_with (fail)
          refine (HE.out _).mono ?_; rintro e w4 ⟨rfl, hb4⟩
          have HO4 := Lib.hid (OwnL.below HO.out hb4)
          have hb04 := hb.trans (hb4.mono hb.size)
          clear HO hb hb4 HE pk
          go_wp2
          go_loopw [12] (fun i wr => ∃ j : Nat, j ≤ 16 ∧ i = .int .i64 j ∧ Below w.heap.size w wr ∧ Hid (RowL .u64 210 w.heap.size wr (.slice (some ⟨gx, 0, none⟩) 16 cx) (rowsP s.size u rest k j))) (fun i _ => 16 - (intOf i).toNat)
          case atStart => exact ⟨0, by omega, rfl, hb04, HO4⟩
          case round =>
            clear HO4 hb04
            obtain ⟨i, hi2, rfl, hb, HO⟩ := hrel
            by_cases hlt : i < 16
            · obtain ⟨j, hj⟩ : ∃ j, j + i = 15 := ⟨15 - i, by omega⟩
              have e1 : (15 : Int) - (i : Int) = (j : Int) := by omega
              have ej : 15 - i = j := by omega
              have hbv := i64_bit ef j (by omega)
              have hbv2 : bits .and .i64 ((ef : Int) / 2 ^ min j 64) 1 = bi (ef.testBit j) := by rw [Nat.min_eq_left (by omega)]; exact hbv
              have hg3 := (World.ownsRow.lt HO.out _ rfl)
              have q1 := OwnL.at1 (rc_len .u64) HO.out (rowsP_get hlt) (j := 0) rfl
              have z0 := fun j => OwnL.frozen (j := j) HO.out
              simp only [Nat.add_zero] at q1
              have HS := Lib.hid (OwnL.set1 (rc_len .u64) HO.out (rowsP_get hlt) (j := 0) (a' := ⟨maskR s.size u i (k + 1), rest.testBit (15 - i)⟩) (u := .int .u64 (maskR s.size u i (k + 1) : Nat)) (by omega) rfl)
              rw [rowsP_set] at HS
              simp only [Nat.add_zero] at HS
              have hmb := maskR_64 s.size u i (K := k) (by omega)
              have hpw : 2 ^ k < 18446744073709551616 := Nat.lt_of_lt_of_le (Nat.pow_lt_pow_right (by omega) (by omega : k < 64)) (by decide)
              cases hbit : ef.testBit j
              · rw [hbit, bi_f] at hbv hbv2
                have hor := u64_or_nat (maskR s.size u i k) 0 hmb (by decide)
                have hM := HM0.out i (by rw [ej]; exact hbit)
                rw [Nat.or_zero, ← hM] at hor
                rw [← hM] at q1
                clear hM
                generalize maskR s.size u i (k + 1) = m1 at *
                have hor0 : bits .or .u64 (m1 : Int) 0 = (m1 : Int) := hor
                clear ej
                go_wp2
                go_roundw
                case rel => exact ⟨i + 1, by omega, by go_num, (by repeat (first | exact Below.refl _ _ | refine Below.alloc ?_ (by first | omega | (simp; done) | (simp; omega)) _ | apply Below.drew | apply below_drewN | refine Below.setCell ?_ (by first | omega | (simp; done) | (simp; omega)) _ | refine Below.trans ?_ (Below.mono (by assumption) (by first | omega | (simp; done) | (simp; omega))))), HS⟩
                case measure => simp [intOf]; omega
              · rw [hbit, bi_t] at hbv hbv2
                have hor := u64_or_nat (maskR s.size u i k) (2 ^ k) hmb hpw
                rw [← HM1.out i (by rw [ej]; exact hbit), ← wrap_pow k (by omega)] at hor
                generalize maskR s.size u i (k + 1) = m1 at *
                generalize maskR s.size u i k = m0 at *
                clear ej
                go_wp2
                go_roundw
                case rel => exact ⟨i + 1, by omega, by go_num, (by repeat (first | exact Below.refl _ _ | refine Below.alloc ?_ (by first | omega | (simp; done) | (simp; omega)) _ | apply Below.drew | apply below_drewN | refine Below.setCell ?_ (by first | omega | (simp; done) | (simp; omega)) _ | refine Below.trans ?_ (Below.mono (by assumption) (by first | omega | (simp; done) | (simp; omega))))), HS⟩
                case measure => simp [intOf]; omega
            · obtain rfl : i = 16 := by omega
              rw [rowsP_all] at HO
              go_wp2
              go_roundw
              case rel => (repeat apply Exists.intro); exact ⟨⟨k + 1, by omega, by go_num, hb, HO⟩, rfl⟩
              case measure => simp [intOf]; omega
        · obtain rfl : k = u.length := by omega
          rw [rowsP_end] at HO
          go_wp2
          go_ret
          exact ⟨_, rfl, HO.out, hb⟩
end Go.Proofs.YtfcdienphillnaaGreat
