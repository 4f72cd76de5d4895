/- FindFlip, impl and spec: the walks. l00Rises: the walk. Whether data, unknown bits and a check value are as described; data whose unknown bits are cleared, impl and spec: the walks. rowsOf: the walk. Contracts of the library over this program (printed by the kit, over the functions of this seat). -/
import Derived.Test.YtfcdienphillnaaGreatCk16
import Derived.Test.YtfcdienphillnaaGreatProg
import Derived.Shelf.Strconv.Itoa0
namespace Go.Proofs.YtfcdienphillnaaGreat
set_option linter.unusedVariables false
set_option linter.unusedSimpArgs false
open Go.RowKit

/-- looks for the only bit, from bit k on, m bits left -/
def ffL (n : Nat) (wn : Nat) (found : Int) : Nat → Nat → Int × Int
  | _, 0 => if found < 0 then (0, 3) else (found, 0)
  | k, m + 1 => if effN n k = wn then (if 0 ≤ found then (0, 11) else ffL n wn k (k + 1) m) else ffL n wn found (k + 1) m
def ffR (s : ByteArray) (crc : Int) : Int × Int :=
  if inB s.size 1 64 && inB crc 0 65535 then
    if crcN (bts s) 65535 ^^^ crc.toNat = 0 then (-1, 0) else ffL s.size (crcN (bts s) 65535 ^^^ crc.toNat) (-1) 0 (8 * s.size)
  else (0, 1)
def ffV (s : ByteArray) (crc : Int) : Value := .tuple #[.int .i64 (ffR s crc).1, .int .i64 (ffR s crc).2]
theorem ff_skip {n wn k t : Nat} {f : Int} {X : Int × Int} (hk : k < t) (H : Hid (X = ffL n wn f k (t - k))) (h : effN n k ≠ wn) : Hid (X = ffL n wn f (k + 1) (t - (k + 1))) :=
  Lib.hid (by rw [H.out, show t - k = (t - (k + 1)) + 1 by omega, ffL, if_neg h])
theorem ff_take {n wn k t : Nat} {f : Int} {X : Int × Int} (hk : k < t) (H : Hid (X = ffL n wn f k (t - k))) (h : effN n k = wn) (hf : f < 0) : Hid (X = ffL n wn k (k + 1) (t - (k + 1))) :=
  Lib.hid (by rw [H.out, show t - k = (t - (k + 1)) + 1 by omega, ffL, if_pos h, if_neg (by omega)])
theorem ff_two {n wn k t : Nat} {f : Int} {X : Int × Int} (hk : k < t) (H : Hid (X = ffL n wn f k (t - k))) (h : effN n k = wn) (hf : 0 ≤ f) : X = (0, 11) := by
  rw [H.out, show t - k = (t - (k + 1)) + 1 by omega, ffL, if_pos h, if_pos hf]
theorem ff_end {n wn k t : Nat} {f : Int} {X : Int × Int} (hk : t ≤ k) (H : Hid (X = ffL n wn f k (t - k))) : X = if f < 0 then (0, 3) else (f, 0) := by
  rw [H.out, show t - k = 0 by omega, ffL]
theorem rises_nil (A : Option Addr) (c : Nat) (lo hi : Int) (w : World) : Calls Tryz.prog 139 #[.slice A 0 c, .int .i64 lo, .int .i64 hi] w fun e w' => e = .returned (.bool true) ∧ w = w' := by
  go_enter Tryz.func139, Tryz.ntmps139
  go_wp2
  refine wp_loop_once ?_
  go_wp2
  go_ret
  exact ⟨rfl, rfl⟩
end Go.Proofs.YtfcdienphillnaaGreat
namespace Go.Proofs.YtfcdienphillnaaGreat
set_option linter.unusedVariables false
set_option linter.unusedSimpArgs false
open Go.RowKit
set_option maxRecDepth 20000 in
set_option maxHeartbeats 2000000 in
theorem rises_s (l : List Int) (v : Value) (lo hi : Int) (w : World) (h : IntsAt w v l) (hm : l.length ≤ 8388608) :
    Calls Tryz.prog 139 #[v, .int .i64 lo, .int .i64 hi] w fun e w' => e = .returned (.bool (risesB lo hi l)) ∧ Below w.heap.size w w' := by
  obtain ⟨A, c, rfl, hA⟩ := h
  by_cases hl0 : l = []
  · subst hl0
    go_enter Tryz.func139, Tryz.ntmps139
    go_wp2
    refine wp_loop_once ?_
    go_wp2
    go_ret
    exact ⟨rfl, Below.refl _ _⟩
  · obtain ⟨g, rfl, hg, hc⟩ := hA.resolve_left hl0
    have HC := Lib.hid hc
    clear hA hc
    go_enter Tryz.func139, Tryz.ntmps139
    go_wp2
    go_loopw [7] (fun i wr => ∃ k : Nat, k ≤ l.length ∧ i = .int .i64 k ∧ Below w.heap.size w wr ∧ Hid (risesB lo hi l = risesF lo hi (lastO l k) (l.drop k))) (fun i _ => l.length - (intOf i).toNat)
    case atStart => exact ⟨0, by omega, rfl, Below.refl _ _, Lib.hid rfl⟩
    case round =>
      obtain ⟨k, hk, rfl, hb, HK⟩ := hrel
      have zr := hb.size
      by_cases hlt : k < l.length
      · obtain ⟨x, hx⟩ : ∃ x, l[k]? = some x := ⟨l[k], List.getElem?_eq_getElem hlt⟩
        have pk : ∀ y : Wb wr, y.1.cell? ⟨g, k, none⟩ = some (.int .i64 x) := fun y => Wb.cell ((hb.cell (p := ⟨g, k, none⟩) hg).trans (HC.out k x hx)) y
        have HX := Lib.hid hx
        clear hx
        cases h1 : inB x lo hi
        · go_wp2_with (fail)
          refine wp_region_wb (by kernel_rfl) (by kernel_rfl) ?_; (repeat (go_big_quiet_step ((go_at_call 43; exact Wb.same (in_s _ _ _ _))))); refine wpQuiet_nil ?_; intro w1 hw'; obtain ⟨⟨w2, hb1⟩, hw''⟩ := hw'; subst hw''
          go_wp2
          go_ret
          exact ⟨ret_bool (ri_no1 HX.out HK h1).symm, (by repeat (first | exact Below.refl _ _ | refine Below.alloc ?_ (by first | omega | (simp; done) | (simp; omega)) _ | apply Below.drew | apply below_drewN | refine Below.setCell ?_ (by first | omega | (simp; done) | (simp; omega)) _ | refine Below.trans ?_ (Below.mono (by assumption) (by first | omega | (simp; done) | (simp; omega)))))⟩
        · rcases Nat.eq_zero_or_pos k with rfl | hk0
          · have HN := ri_yes HX.out HK h1 (fun y hy => by omega)
            go_wp2_with (fail)
            refine wp_region_wb (by kernel_rfl) (by kernel_rfl) ?_; (repeat (go_big_quiet_step ((go_at_call 43; exact Wb.same (in_s _ _ _ _))))); refine wpQuiet_nil ?_; intro w1 hw'; obtain ⟨⟨w2, hb1⟩, hw''⟩ := hw'; subst hw''
            go_wp2
            go_roundw
            case rel => exact ⟨1, by omega, by go_num, (by repeat (first | exact Below.refl _ _ | refine Below.alloc ?_ (by first | omega | (simp; done) | (simp; omega)) _ | apply Below.drew | apply below_drewN | refine Below.setCell ?_ (by first | omega | (simp; done) | (simp; omega)) _ | refine Below.trans ?_ (Below.mono (by assumption) (by first | omega | (simp; done) | (simp; omega))))), HN⟩
            case measure => simp [intOf]; omega
          · obtain ⟨y, hy⟩ : ∃ y, l[k - 1]? = some y := ⟨l[k - 1]'(by omega), List.getElem?_eq_getElem (by omega)⟩
            have py : ∀ z : Wb wr, z.1.cell? ⟨g, k - 1, none⟩ = some (.int .i64 y) := fun z => Wb.cell ((hb.cell (p := ⟨g, k - 1, none⟩) hg).trans (HC.out (k - 1) y hy)) z
            have HY := Lib.hid hy
            clear hy
            obtain ⟨j, rfl⟩ : ∃ j, k = j + 1 := ⟨k - 1, by omega⟩
            rw [Nat.add_sub_cancel] at py
            cases h2 : decide (x ≤ y)
            · have h2' := of_decide_eq_false h2
              have HN := ri_yes HX.out HK h1 (fun y' _ hy' => by rw [HY.out] at hy'; cases hy'; exact h2')
              go_wp2_with (fail)
              refine wp_region_wb (by kernel_rfl) (by kernel_rfl) ?_; (repeat (go_big_quiet_step ((go_at_call 43; exact Wb.same (in_s _ _ _ _))))); refine wpQuiet_nil ?_; intro w1 hw'; obtain ⟨⟨w2, hb1⟩, hw''⟩ := hw'; subst hw''
              go_wp2
              go_roundw
              case rel => exact ⟨j + 1 + 1, by omega, by go_num, (by repeat (first | exact Below.refl _ _ | refine Below.alloc ?_ (by first | omega | (simp; done) | (simp; omega)) _ | apply Below.drew | apply below_drewN | refine Below.setCell ?_ (by first | omega | (simp; done) | (simp; omega)) _ | refine Below.trans ?_ (Below.mono (by assumption) (by first | omega | (simp; done) | (simp; omega))))), HN⟩
              case measure => simp [intOf]; omega
            · have h2' := of_decide_eq_true h2
              go_wp2_with (fail)
              refine wp_region_wb (by kernel_rfl) (by kernel_rfl) ?_; (repeat (go_big_quiet_step ((go_at_call 43; exact Wb.same (in_s _ _ _ _))))); refine wpQuiet_nil ?_; intro w1 hw'; obtain ⟨⟨w2, hb1⟩, hw''⟩ := hw'; subst hw''
              go_wp2
              go_ret
              exact ⟨ret_bool (ri_no2 HX.out HK hk0 HY.out h2').symm, (by repeat (first | exact Below.refl _ _ | refine Below.alloc ?_ (by first | omega | (simp; done) | (simp; omega)) _ | apply Below.drew | apply below_drewN | refine Below.setCell ?_ (by first | omega | (simp; done) | (simp; omega)) _ | refine Below.trans ?_ (Below.mono (by assumption) (by first | omega | (simp; done) | (simp; omega)))))⟩
      · go_wp2
        go_ret
        exact ⟨ret_bool (ri_end (by omega) HK).symm, hb⟩
end Go.Proofs.YtfcdienphillnaaGreat
namespace Go.Proofs.YtfcdienphillnaaGreat
set_option linter.unusedVariables false
set_option linter.unusedSimpArgs false
open Go.RowKit
set_option maxHeartbeats 1000000 in
theorem ask_s (s : ByteArray) (l : List Int) (v : Value) (c : Int) (w : World) (h : IntsAt w v l) (hm : l.length ≤ 1048576) (hs : s.size ≤ 1048576) :
    Calls Tryz.prog 166 #[.string s, v, .int .i64 c] w fun e w' => e = .returned (.bool (unkOk s l c)) ∧ Below w.heap.size w w' := by
  have HR := Lib.hid (rises_s l v 0 (8 * s.size - 1) w h (by omega))
  obtain ⟨A, cA, rfl, _⟩ := h
  have HF : Hid (unkOk s l c = ((inB s.size 1 64 && inB c 0 65535) && (decide (l.length ≤ 64) && risesB 0 (8 * s.size - 1) l))) := Lib.hid rfl
  have hdl : decide ((l.length : Int) ≤ 64) = decide (l.length ≤ 64) := by apply decide_eq_decide.2; omega
  generalize risesB 0 (8 * s.size - 1) l = b4 at *
  cases h1 : inB s.size 1 64
  · go_enter Tryz.func166, Tryz.ntmps166
    go_wp2_with (first | (go_at_call 43; refine (in_s _ _ _ _).mono ?_; rintro e w1 ⟨rfl, rfl⟩) | (go_at_call 139; refine (HR.out).mono ?_; rintro e w1 ⟨rfl, hb1⟩) | (go_at_call 138; go_in))
    go_ret
    exact ⟨ret_bool (by rw [HF.out, h1]; rfl), Below.refl _ _⟩
  · by_cases h3 : l.length ≤ 64
    · rw [decide_eq_true h3] at hdl
      cases b4
      · go_enter Tryz.func166, Tryz.ntmps166
        go_wp2_with (first | (go_at_call 43; refine (in_s _ _ _ _).mono ?_; rintro e w1 ⟨rfl, rfl⟩) | (go_at_call 139; refine (HR.out).mono ?_; rintro e w1 ⟨rfl, hb1⟩) | (go_at_call 138; go_in))
        go_ret
        exact ⟨ret_bool (by rw [HF.out, h1, decide_eq_true h3]; cases inB c 0 65535 <;> rfl), hb1⟩
      · go_enter Tryz.func166, Tryz.ntmps166
        go_wp2_with (first | (go_at_call 43; refine (in_s _ _ _ _).mono ?_; rintro e w1 ⟨rfl, rfl⟩) | (go_at_call 139; refine (HR.out).mono ?_; rintro e w1 ⟨rfl, hb1⟩) | (go_at_call 138; go_in))
        go_ret
        exact ⟨ret_bool (by rw [HF.out, h1, decide_eq_true h3]; cases inB c 0 65535 <;> rfl), hb1⟩
    · rw [decide_eq_false h3] at hdl
      go_enter Tryz.func166, Tryz.ntmps166
      go_wp2_with (first | (go_at_call 43; refine (in_s _ _ _ _).mono ?_; rintro e w1 ⟨rfl, rfl⟩) | (go_at_call 139; refine (HR.out).mono ?_; rintro e w1 ⟨rfl, hb1⟩) | (go_at_call 138; go_in))
      go_ret
      exact ⟨ret_bool (by rw [HF.out, h1, decide_eq_false h3]; cases inB c 0 65535 <;> rfl), Below.refl _ _⟩
theorem take_next {l : List Nat} {k x : Nat} (h : l[k]? = some x) : l.take (k + 1) = l.take k ++ [x] := by
  obtain ⟨hk, rfl⟩ := List.getElem?_eq_some_iff.1 h
  rw [List.take_succ_eq_append_getElem hk]
theorem clrN_take {l u : List Nat} {k b : Nat} (h : u[k]? = some b) : clrN l (u.take (k + 1)) = clr1 (clrN l (u.take k)) b := by rw [take_next h, clrN_snoc]
def clrQ1 (s : ByteArray) (u : List Nat) (w : World) (e : Ending) (w' : World) : Prop := e = .returned (.string (strN (clrN (bts s) u))) ∧ Below w.heap.size w w'
def clrQ2 (s : ByteArray) (u : List Nat) (w : World) (e : Ending) (w' : World) : Prop := ∃ c, e = .returned (.slice (some ⟨w.heap.size, 0, none⟩) s.size c) ∧ Buf w' w.heap.size (clrN (bts s) u) ∧ w.heap.size < w'.heap.size ∧ Below w.heap.size w w'
set_option maxRecDepth 20000 in
set_option maxHeartbeats 2000000 in
theorem clear_i (s : ByteArray) (u : List Nat) (v : Value) (w : World) (h : IntsAt w v (intsN u)) (hu : ∀ b ∈ u, b < 8 * s.size) (hs : s.size ≤ 1048576) (hm : u.length ≤ 1048576) :
    Calls Tryz.prog 182 #[.string s, v] w fun e w' => clrQ1 s u w e w' := by
  unfold clrQ1
  obtain ⟨cb, wb, hcv, hbuf, hb0, hwz⟩ := buf_of_str w s
  obtain ⟨A, cA, rfl, hA⟩ := h
  rw [intsN_len]
  have hl := bts_len s
  by_cases hu0 : u = []
  · subst hu0
    have hst := (hbuf.str (n := s.size) (c := cb) hl)
    go_enter Tryz.func182, Tryz.ntmps182
    go_wp2
    refine wp_loop_once ?_
    go_wp2
    go_ret
    first | exact ⟨rfl, hb0⟩ | exact ⟨_, rfl, hbuf, by omega, hb0⟩
  · obtain ⟨g, rfl, hg, hc⟩ := hA.resolve_left (by simpa [intsN] using hu0)
    have HC := Lib.hid hc
    have HU := Lib.hid hu
    clear hA hc hu
    go_enter Tryz.func182, Tryz.ntmps182
    go_wp2
    go_loopw [12] (fun i wr => ∃ k : Nat, k ≤ u.length ∧ i = .int .i64 k ∧ Below w.heap.size w wr ∧ w.heap.size < wr.heap.size ∧ Hid (Buf wr w.heap.size (clrN (bts s) (u.take k)))) (fun i _ => u.length - (intOf i).toNat)
    case atStart => exact ⟨0, by omega, rfl, hb0, by omega, Lib.hid (by simpa [clrN] using hbuf)⟩
    case round =>
      obtain ⟨k, hk, rfl, hb, hz, HB⟩ := hrel
      by_cases hlt : k < u.length
      · obtain ⟨b, hbk⟩ : ∃ b, u[k]? = some b := ⟨u[k], List.getElem?_eq_getElem hlt⟩
        have hbs := HU.out b (List.mem_of_getElem? hbk)
        have pk := (hb.cell (p := ⟨g, k, none⟩) hg).trans (HC.out k _ (intsN_get hbk))
        obtain ⟨kk, r, hkk, hr, hr8, hbit⟩ := bit_split b
        have hll : (clrN (bts s) (u.take k)).length = s.size := by rw [clrN_len]; exact hl
        obtain ⟨x, hx⟩ : ∃ x, (clrN (bts s) (u.take k))[kk]? = some x := ⟨_, List.getElem?_eq_getElem (by omega)⟩
        obtain ⟨p1, p2⟩ := HB.out kk x hx
        have hx8 := clrN_lt bts_lt x (List.mem_of_getElem? hx)
        have HS := Lib.hid (HB.out.set (clrX x r) hx)
        rw [← clr1_at hkk hr hx, ← clrN_take hbk] at HS
        have e1 : ((b : Int) / 8) = (kk : Int) := by omega
        have e2 : ((b : Int) % 8) = (r : Int) := by omega
        have e3 : ((b : Int).tmod 8) = (r : Int) := by rw [Int.tmod_eq_emod_of_nonneg (by omega)]; omega
        have hww : IntKind.i64.wrap (kk : Int) = kk := by rw [IntKind.wrap_i64]; omega
        have hwr : IntKind.i64.wrap (r : Int) = r := by rw [IntKind.wrap_i64]; omega
        have hxs := andnot_sh x r hx8 hr8
        have hkk2 : kk < s.size := by omega
        have hxs8 : bits .andNot .u8 (x : Int) (128 / 2 ^ min r 8) = ((clrX x r : Nat) : Int) := by rw [Nat.min_eq_left (by omega)]; exact hxs
        clear hbk hkk hr hbit hx hll
        go_wp2
        have q0 := (show ({ wr with drawn := wr.drawn + 1 } : World).cell? _ = _ from pk)
        have q1 := (show ({ wr with drawn := wr.drawn + 1 } : World).cell? _ = _ from p1)
        have q2 := (show ({ wr with drawn := wr.drawn + 1 } : World).frozen? _ = _ from p2)
        go_still_tail 10, (by kernel_rfl)
        go_wp2
        go_roundw
        case rel => exact ⟨k + 1, by omega, by go_num, (by repeat (first | exact Below.refl _ _ | refine Below.alloc ?_ (by first | omega | (simp; done) | (simp; omega)) _ | apply Below.drew | apply below_drewN | refine Below.setCell ?_ (by first | omega | (simp; done) | (simp; omega)) _ | refine Below.trans ?_ (Below.mono (by assumption) (by first | omega | (simp; done) | (simp; omega))))), by simp; omega, Lib.hid (by first | exact HS.out.block rfl | (rw [hxs8]; exact HS.out.block rfl))⟩
        case measure => simp [intOf]; omega
      · obtain rfl : k = u.length := by omega
        have HB2 := HB.out
        rw [List.take_length] at HB2
        have hst := HB2.str (n := s.size) (c := cb) (by rw [clrN_len]; exact hl)
        go_wp2
        go_ret
        first | exact ⟨rfl, hb⟩ | exact ⟨_, rfl, HB2, by omega, hb⟩
set_option maxRecDepth 20000 in
set_option maxHeartbeats 2000000 in
theorem clear_s (s : ByteArray) (u : List Nat) (v : Value) (w : World) (h : IntsAt w v (intsN u)) (hu : ∀ b ∈ u, b < 8 * s.size) (hs : s.size ≤ 1048576) (hm : u.length ≤ 1048576) :
    Calls Tryz.prog 170 #[.string s, v] w fun e w' => clrQ2 s u w e w' := by
  unfold clrQ2
  obtain ⟨cb, wb, hcv, hbuf, hb0, hwz⟩ := buf_of_str w s
  obtain ⟨A, cA, rfl, hA⟩ := h
  rw [intsN_len]
  have hl := bts_len s
  by_cases hu0 : u = []
  · subst hu0
    have hst := (hbuf.str (n := s.size) (c := cb) hl)
    go_enter Tryz.func170, Tryz.ntmps170
    go_wp2
    refine wp_loop_once ?_
    go_wp2
    go_ret
    first | exact ⟨rfl, hb0⟩ | exact ⟨_, rfl, hbuf, by omega, hb0⟩
  · obtain ⟨g, rfl, hg, hc⟩ := hA.resolve_left (by simpa [intsN] using hu0)
    have HC := Lib.hid hc
    have HU := Lib.hid hu
    clear hA hc hu
    go_enter Tryz.func170, Tryz.ntmps170
    go_wp2
    go_loopw [6] (fun i wr => ∃ k : Nat, k ≤ u.length ∧ i = .int .i64 k ∧ Below w.heap.size w wr ∧ w.heap.size < wr.heap.size ∧ Hid (Buf wr w.heap.size (clrN (bts s) (u.take k)))) (fun i _ => u.length - (intOf i).toNat)
    case atStart => exact ⟨0, by omega, rfl, hb0, by omega, Lib.hid (by simpa [clrN] using hbuf)⟩
    case round =>
      obtain ⟨k, hk, rfl, hb, hz, HB⟩ := hrel
      by_cases hlt : k < u.length
      · obtain ⟨b, hbk⟩ : ∃ b, u[k]? = some b := ⟨u[k], List.getElem?_eq_getElem hlt⟩
        have hbs := HU.out b (List.mem_of_getElem? hbk)
        have pk := (hb.cell (p := ⟨g, k, none⟩) hg).trans (HC.out k _ (intsN_get hbk))
        obtain ⟨kk, r, hkk, hr, hr8, hbit⟩ := bit_split b
        have hll : (clrN (bts s) (u.take k)).length = s.size := by rw [clrN_len]; exact hl
        obtain ⟨x, hx⟩ : ∃ x, (clrN (bts s) (u.take k))[kk]? = some x := ⟨_, List.getElem?_eq_getElem (by omega)⟩
        obtain ⟨p1, p2⟩ := HB.out kk x hx
        have hx8 := clrN_lt bts_lt x (List.mem_of_getElem? hx)
        have HS := Lib.hid (HB.out.set (clrX x r) hx)
        rw [← clr1_at hkk hr hx, ← clrN_take hbk] at HS
        have e1 : ((b : Int) / 8) = (kk : Int) := by omega
        have e2 : ((b : Int) % 8) = (r : Int) := by omega
        have e3 : ((b : Int).tmod 8) = (r : Int) := by rw [Int.tmod_eq_emod_of_nonneg (by omega)]; omega
        have hww : IntKind.i64.wrap (kk : Int) = kk := by rw [IntKind.wrap_i64]; omega
        have hwr : IntKind.i64.wrap (r : Int) = r := by rw [IntKind.wrap_i64]; omega
        have hxs := andnot_sh x r hx8 hr8
        have hkk2 : kk < s.size := by omega
        have hxs8 : bits .andNot .u8 (x : Int) (128 / 2 ^ min r 8) = ((clrX x r : Nat) : Int) := by rw [Nat.min_eq_left (by omega)]; exact hxs
        clear hbk hkk hr hbit hx hll
        go_wp2
        have q0 := (show ({ wr with drawn := wr.drawn + 1 } : World).cell? _ = _ from pk)
        have q1 := (show ({ wr with drawn := wr.drawn + 1 } : World).cell? _ = _ from p1)
        have q2 := (show ({ wr with drawn := wr.drawn + 1 } : World).frozen? _ = _ from p2)
        go_still_tail 17, (by kernel_rfl)
        go_wp2
        go_roundw
        case rel => exact ⟨k + 1, by omega, by go_num, (by repeat (first | exact Below.refl _ _ | refine Below.alloc ?_ (by first | omega | (simp; done) | (simp; omega)) _ | apply Below.drew | apply below_drewN | refine Below.setCell ?_ (by first | omega | (simp; done) | (simp; omega)) _ | refine Below.trans ?_ (Below.mono (by assumption) (by first | omega | (simp; done) | (simp; omega))))), by simp; omega, Lib.hid (by first | exact HS.out.block rfl | (rw [hxs8]; exact HS.out.block rfl))⟩
        case measure => simp [intOf]; omega
      · obtain rfl : k = u.length := by omega
        have HB2 := HB.out
        rw [List.take_length] at HB2
        have hst := HB2.str (n := s.size) (c := cb) (by rw [clrN_len]; exact hl)
        go_wp2
        go_ret
        first | exact ⟨rfl, hb⟩ | exact ⟨_, rfl, HB2, by omega, hb⟩
end Go.Proofs.YtfcdienphillnaaGreat
namespace Go.Proofs.YtfcdienphillnaaGreat
set_option linter.unusedVariables false
set_option linter.unusedSimpArgs false
open Go.RowKit
theorem IntsAt.below {w w' : World} {v : Value} {l : List Int} (h : IntsAt w v l) (hb : Below w.heap.size w w') : IntsAt w' v l := by
  obtain ⟨A, c, rfl, hA⟩ := h
  refine ⟨A, c, rfl, ?_⟩
  rcases hA with hA | ⟨g, rfl, hg, hc⟩
  · exact .inl hA
  · exact .inr ⟨g, rfl, Nat.lt_of_lt_of_le hg hb.size, fun k x hk => (hb.cell (p := ⟨g, k, none⟩) hg).trans (hc k x hk)⟩
theorem crcl_i (l : List Nat) (v : Nat) (w : World) (hl : l.length ≤ 2097152) (hlb : ∀ x ∈ l, x < 256) (hv : v < 65536) :
    Calls Tryz.prog 122 #[.string (strN l), .int .i64 v] w fun e w' => e = .returned (.int .i64 (crcN l v)) ∧ w = w' := by
  have := crcn_i (strN l) v w (by rw [strN_size]; exact hl) hv
  rwa [bts_strN hlb] at this
theorem getD_some {l : List Nat} {k x : Nat} (h : l[k]? = some x) : l.getD k 0 = x := by rw [List.getD_eq_getElem?_getD, h]; rfl
set_option maxRecDepth 20000 in
set_option maxHeartbeats 8000000 in
theorem rows_i (s : ByteArray) (u : List Nat) (v : Value) (crc : Nat) (w : World) (h : IntsAt w v (intsN u)) (hu : ∀ b ∈ u, b < 8 * s.size) (hs : s.size ≤ 64) (hm : u.length ≤ 64) (hc : crc < 65536) :
    Calls Tryz.prog 179 #[.string s, v, .int .i64 crc] w fun e w' => RetL (rc .i64) 2 224 w (rowsR s.size u (crcN (clrN (bts s) u) 65535 ^^^ crc)) e w' := by
  obtain ⟨i0, hi, hz0, hz1, hz2⟩ := info_parts rowi_info
  have HI := Lib.hid h
  have HU := Lib.hid hu
  have HCL := Lib.hid (fun w' (hb : Below w.heap.size w w') => clear_i s u v w' (h.below hb) hu (by omega) (by omega))
  have HCR := Lib.hid (fun w' => crcl_i (clrN (bts s) u) 65535 w' (by rw [clrN_len, bts_len]; omega) (clrN_lt bts_lt) (by omega))
  have hcn := crcN_lt (clrN (bts s) u) 65535 (by omega)
  generalize crcN (clrN (bts s) u) 65535 = cn at *
  have hx := i64_xor_nat cn crc (by omega) (by omega)
  have hrl : cn ^^^ crc < 65536 := Nat.xor_lt_two_pow (n := 16) hcn hc
  generalize cn ^^^ crc = rest at *
  obtain ⟨A, cA, rfl, _⟩ := h
  simp only [intsN_len] at HCL ⊢
  clear hu
  go_enter Tryz.func179, Tryz.ntmps179
  go_wp2_with (at_make; refine wpList_make_full _ rfl _ _ _ rfl w.heap.size 224 i0 (.agg #[.int .u64 0, .int .i64 0]) 2 Tryz.underlying218 hi hz0 hz1 .i64 .i64 _ _ 16 rfl rfl rfl rfl (by rw [hz2]; omega) (by unfold maxLen; omega) (Nat.le_refl _) ?_; intro w1 hown hgrow)
  have hb0 : Below w.heap.size w w1 := (Below.refl _ _).grown hgrow (Nat.le_refl _) (by simp)
  rw [made_flat (f := rc .i64) (rc_len .i64) (by omega) (⟨0, false⟩ : Rw) (Value.agg #[.int .u64 0, .int .i64 0]).cells rfl] at hown
  have HO1 : Hid (RowL .i64 224 w.heap.size w1 (.slice (some ⟨w.heap.size, 0, none⟩) 16 16) (rowsB rest 0)) := Lib.hid hown
  clear hgrow hown
  go_wp2_with (fail)
  refine (HCL.out _ hb0).mono ?_; rintro e w2 ⟨rfl, hb2⟩
  go_wp2_with (fail)
  refine (HCR.out _).mono ?_; rintro e w3 ⟨rfl, rfl⟩
  have HO2 := Lib.hid (OwnL.below HO1.out hb2)
  have hb02 := hb0.trans (hb2.mono hb0.size)
  clear HO1 HCL HCR hb2 hb0
  go_wp2
  go_loopw [23] (fun i wr => ∃ k : Nat, k ≤ 16 ∧ i = .int .i64 k ∧ Below w.heap.size w wr ∧ Hid (RowL .i64 224 w.heap.size wr (.slice (some ⟨w.heap.size, 0, none⟩) 16 16) (rowsB rest k))) (fun i _ => 16 - (intOf i).toNat)
  case atStart => exact ⟨0, by omega, rfl, hb02, HO2⟩
  case round =>
    obtain ⟨k, hk, rfl, hb, HO⟩ := hrel
    by_cases hlt : k < 16
    · obtain ⟨j, hj⟩ : ∃ j, j + k = 15 := ⟨15 - k, by omega⟩
      have e1 : (15 : Int) - (k : Int) = (j : Int) := by omega
      have ej : 15 - k = j := by omega
      have hbv := i64_bit rest j (by omega)
      have hg := (World.ownsRow.lt HO.out _ rfl).2
      have q1 := OwnL.at1 (rc_len .i64) HO.out (rowsB_get hlt) (j := 1) rfl
      have z0 := fun j => OwnL.frozen (j := j) HO.out
      have HS := Lib.hid (OwnL.set1 (rc_len .i64) HO.out (rowsB_get hlt) (j := 1) (a' := ⟨0, rest.testBit (15 - k)⟩) (u := .int .i64 (bi (rest.testBit (15 - k)))) (by omega) rfl)
      rw [rowsB_set, ej] at HS
      clear ej
      go_wp2
      go_roundw
      case rel => exact ⟨k + 1, by omega, by go_num, (by repeat (first | exact Below.refl _ _ | refine Below.alloc ?_ (by first | omega | (simp; done) | (simp; omega)) _ | apply Below.drew | apply below_drewN | refine Below.setCell ?_ (by first | omega | (simp; done) | (simp; omega)) _ | refine Below.trans ?_ (Below.mono (by assumption) (by first | omega | (simp; done) | (simp; omega))))), HS⟩
      case measure => simp [intOf]; omega
    · obtain rfl : k = 16 := by omega
      rw [rowsB_end s.size u] at HO
      have hbo := hb
      generalize hwo : wr = wo at *; clear hwo
      clear HO2 hb02
      go_wp2
      go_loopw [38] (fun i wr => ∃ k : Nat, k ≤ u.length ∧ i = .int .i64 k ∧ Below w.heap.size w wr ∧ Hid (RowL .i64 224 w.heap.size wr (.slice (some ⟨w.heap.size, 0, none⟩) 16 16) (rowsP s.size u rest k 0))) (fun i _ => u.length - (intOf i).toNat)
      case atStart => exact ⟨0, by omega, rfl, hbo, HO⟩
      case round =>
        clear HO hbo
        obtain ⟨k, hk, rfl, hb, HO⟩ := hrel
        by_cases hltk : k < u.length
        · obtain ⟨b, hbk⟩ : ∃ b, u[k]? = some b := ⟨u[k], List.getElem?_eq_getElem hltk⟩
          have hbs := HU.out b (List.mem_of_getElem? hbk)
          have HB := Lib.hid (getD_some hbk)
          obtain ⟨A', c', hv, hA⟩ := HI.out
          injection hv with hv _ hcap
          subst hcap
          obtain ⟨g, hg1, hg, hcc⟩ := hA.resolve_left (by intro h0; have := congrArg List.length h0; rw [intsN_len] at this; simp only [List.length_nil] at this; omega)
          rw [hg1] at hv
          subst hv
          have pk := (hb.cell (p := ⟨g, k, none⟩) hg).trans (hcc k _ (intsN_get hbk))
          have HE := Lib.hid (fun w' => eff_i s.size b w' hs hbs)
          have hel := effN_lt s.size b
          have HM1 := Lib.hid (fun i hi => maskR_yes (n := s.size) (i := i) HB.out hi)
          have HM0 := Lib.hid (fun i hi => maskR_no (n := s.size) (i := i) HB.out hi)
          generalize effN s.size b = ef at *
          clear hcc hbk HB hg1 hA
          go_wp2_with (fail)
          refine (HE.out _).mono ?_; rintro e w4 ⟨rfl, hb4⟩
          have HO4 := Lib.hid (OwnL.below HO.out hb4)
          have hb04 := hb.trans (hb4.mono hb.size)
          clear HO hb hb4 HE pk
          go_wp2
          go_loopw [49] (fun i wr => ∃ j : Nat, j ≤ 16 ∧ i = .int .i64 j ∧ Below w.heap.size w wr ∧ Hid (RowL .i64 224 w.heap.size wr (.slice (some ⟨w.heap.size, 0, none⟩) 16 16) (rowsP s.size u rest k j))) (fun i _ => 16 - (intOf i).toNat)
          case atStart => exact ⟨0, by omega, rfl, hb04, HO4⟩
          case round =>
            clear HO4 hb04
            obtain ⟨i, hi2, rfl, hb, HO⟩ := hrel
            by_cases hlt : i < 16
            · obtain ⟨j, hj⟩ : ∃ j, j + i = 15 := ⟨15 - i, by omega⟩
              have e1 : (15 : Int) - (i : Int) = (j : Int) := by omega
              have ej : 15 - i = j := by omega
              have hbv := i64_bit ef j (by omega)
              cases hbit : ef.testBit j
              · rw [hbit, bi_f] at hbv
                have HM := Lib.hid (rowsP_same (rest := rest) (HM0.out i (by rw [ej]; exact hbit)))
                clear ej
                go_wp2
                go_roundw
                case rel => exact ⟨i + 1, by omega, by go_num, hb, by rw [HM.out]; exact HO⟩
                case measure => simp [intOf]; omega
              · rw [hbit, bi_t] at hbv
                have hg3 := (World.ownsRow.lt HO.out _ rfl).2
                have q1 := OwnL.at1 (rc_len .i64) HO.out (rowsP_get hlt) (j := 0) rfl
                have z0 := fun j => OwnL.frozen (j := j) HO.out
                have HS := Lib.hid (OwnL.set1 (rc_len .i64) HO.out (rowsP_get hlt) (j := 0) (a' := ⟨maskR s.size u i (k + 1), rest.testBit (15 - i)⟩) (u := .int .u64 (maskR s.size u i (k + 1) : Nat)) (by omega) rfl)
                rw [rowsP_set] at HS
                simp only [Nat.add_zero] at HS
                have hmb := maskR_64 s.size u i (K := k) (by omega)
                have hpw : 2 ^ k < 18446744073709551616 := Nat.lt_of_lt_of_le (Nat.pow_lt_pow_right (by omega) (by omega : k < 64)) (by decide)
                have hor := u64_or_nat (maskR s.size u i k) (2 ^ k) hmb hpw
                rw [← HM1.out i (by rw [ej]; exact hbit)] at hor
                rw [← wrap_pow k (by omega)] at hor
                generalize maskR s.size u i (k + 1) = m1 at *
                generalize maskR s.size u i k = m0 at *
                have r1 : wr.drew.cell? ⟨w.heap.size, i * 2, none⟩ = some (.int .u64 (m0 : Nat)) := by simpa using q1
                have r0 := fun j => (show wr.drew.frozen? ⟨w.heap.size, j, none⟩ = false from z0 j)
                clear ej q1 z0
                go_wp2
                go_still_tail 10, (by kernel_rfl)
                go_wp2
                go_roundw
                case rel => exact ⟨i + 1, by omega, by go_num, (by repeat (first | exact Below.refl _ _ | refine Below.alloc ?_ (by first | omega | (simp; done) | (simp; omega)) _ | apply Below.drew | apply below_drewN | refine Below.setCell ?_ (by first | omega | (simp; done) | (simp; omega)) _ | refine Below.trans ?_ (Below.mono (by assumption) (by first | omega | (simp; done) | (simp; omega))))), Lib.hid (OwnL.below HS.out ((Qt.refl _).drew.below _))⟩
                case measure => simp [intOf]; omega
            · obtain rfl : i = 16 := by omega
              rw [rowsP_all] at HO
              go_wp2
              go_roundw
              case rel => (repeat apply Exists.intro); exact ⟨⟨k + 1, by omega, by go_num, hb, HO⟩, rfl⟩
              case measure => simp [intOf]; omega
        · obtain rfl : k = u.length := by omega
          rw [rowsP_end] at HO
          go_wp2
          go_ret
          exact ⟨_, rfl, HO.out, hb⟩
end Go.Proofs.YtfcdienphillnaaGreat
namespace Go.Proofs
open Go.Shelf
def Tryz.lays129_ren : Go.Shelf.Ren := ⟨fun | 129 => 162 | n => n, fun | 53 => 143 | 3 => 3 | 4 => 4 | 46 => 150 | 5 => 5 | 9 => 9 | n => n, fun | n => n⟩
theorem Tryz.lays129 : Go.Proofs.Lays.n129 Tryz.prog Tryz.lays129_ren := {
  mixed := by kernel_rfl
  f129 := Tryz.func162.trans (congrArg some (by kernel_rfl))
  t3 := Tryz.underlying3
  a3 := Tryz.isAgg3
  z3 := Tryz.sizeOf3
  v3 := Tryz.zeroValue3
  t4 := Tryz.underlying4
  a4 := Tryz.isAgg4
  z4 := Tryz.sizeOf4
  v4 := Tryz.zeroValue4
  t5 := Tryz.underlying5
  a5 := Tryz.isAgg5
  z5 := Tryz.sizeOf5
  v5 := Tryz.zeroValue5
  t9 := Tryz.underlying9
  a9 := Tryz.isAgg9
  z9 := Tryz.sizeOf9
  v9 := Tryz.zeroValue9
  t46 := Tryz.underlying150
  a46 := Tryz.isAgg150
  z46 := Tryz.sizeOf150
  v46 := Tryz.zeroValue150
  t53 := Tryz.underlying143
  a53 := Tryz.isAgg143
  z53 := Tryz.sizeOf143
  v53 := Tryz.zeroValue143 }
/-- bits.Len64: "Len64 returns the minimum number of bits required to represent x; the result is 0 for x == 0.": IT RETURNS 'Lib.bitLen x'; the world is as it was. ('h0', 'h1': x is a uint64.) (LAID: no walk: one application.) -/
theorem Tryz.bits_Len64 (x : Int) (w : World) (h0 : 0 ≤ x) (h1 : x ≤ 18446744073709551615) :
    Calls Tryz.prog 162 #[.int .u64 x] w fun e w' => e = .returned (.int .i64 (Lib.bitLen x.toNat)) ∧ w' = w := Any.bits_Len64 Tryz.lays129 x w h0 h1
end Go.Proofs
