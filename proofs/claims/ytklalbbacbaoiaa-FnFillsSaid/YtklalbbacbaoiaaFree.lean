/- l25Solved, FreeBits, impl and spec: the walks. -/
import Derived.Test.YtklalbbacbaoiaaRedS
namespace Go.Proofs.Ytklalbbacbaoiaa
set_option linter.unusedVariables false
open Go.RowKit
theorem intsN_back (u : List Nat) : (intsN u).map Int.toNat = u := by
  unfold intsN; rw [List.map_map]
  conv => rhs; rw [← List.map_id u]
  exact List.map_congr_left fun x _ => by simp
def restOf (s : ByteArray) (u : List Nat) (c : Nat) : Nat := crcN (clrN (bts s) u) 65535 ^^^ c
def rowsOf (s : ByteArray) (u : List Nat) (c : Nat) : List Rw := rowsR s.size u (restOf s u c)
theorem rowsOf_lt {s : ByteArray} {u : List Nat} {c : Nat} (h : u.length ≤ 64) : ∀ e ∈ rowsOf s u c, e.m < 18446744073709551616 := fun e he =>
  Nat.lt_of_lt_of_le (rowsR_lt _ _ _ e he) (Nat.pow_le_pow_right (n := 2) (by omega) h)
theorem rowsOf_len (s : ByteArray) (u : List Nat) (c : Nat) : (rowsOf s u c).length = 16 := rowsR_len _ _ _
def cdO (X : Option (List Rw)) : Int := match X with | none => 3 | some _ => 0
/-- the reference's solved form -/
def solQ (s : ByteArray) (u : List Nat) (c : Nat) (w : World) (e : Ending) (w' : World) : Prop := ∃ v', e = .returned (.tuple #[v', .int .i64 (cdO (redS (rowsOf s u c)))]) ∧ RowL .u64 107 w.heap.size w' v' ((redS (rowsOf s u c)).getD []) ∧ Below w.heap.size w w'
set_option maxHeartbeats 1000000 in
theorem solved_no (s : ByteArray) (l : List Int) (v : Value) (c : Int) (w : World) (h : IntsAt w v l) (hm : l.length ≤ 1048576) (hs : s.size ≤ 1048576) (hok : unkOk s l c = false) :
    Calls Try.prog 71 #[.string s, v, .int .i64 c] w fun e w' => e = .returned (.tuple #[.slice none 0 0, .int .i64 1]) ∧ Below w.heap.size w w' := by
  have HA := Lib.hid (ask_s s l v c w h hm hs)
  rw [hok] at HA
  obtain ⟨A, cA, rfl, _⟩ := h
  go_enter Try.func71, Try.ntmps71
  go_wp2_with (fail)
  refine HA.out.mono ?_; rintro e w1 ⟨rfl, hb1⟩
  go_wp2
  exact bodyPost_ret (v := .tuple #[.slice none 0 0, .int .i64 1]) (by simp [results, Try.results71, go_sem] <;> rfl) rfl ⟨rfl, hb1⟩
set_option maxRecDepth 20000 in
set_option maxHeartbeats 2000000 in
theorem solved_s (s : ByteArray) (u : List Nat) (v : Value) (c : Nat) (w : World) (h : IntsAt w v (intsN u)) (hok : unkOk s (intsN u) c = true) (hu : ∀ b ∈ u, b < 8 * s.size) (hs : s.size ≤ 64) (hm : u.length ≤ 64) (hc : c < 65536) :
    Calls Try.prog 71 #[.string s, v, .int .i64 c] w fun e w' => solQ s u c w e w' := by
  have HA := Lib.hid (ask_s s (intsN u) v c w h (by rw [intsN_len]; omega) (by omega))
  rw [hok] at HA
  have HR := Lib.hid (fun w' (hb : Below w.heap.size w w') => rows_s s u v c w' (h.below hb) hu hs hm hc)
  have HX := Lib.hid (fun B v1 w' (o : RowL .u64 107 B w' v1 (rowsOf s u c)) => red_s B (rowsOf s u c) v1 w' o (rowsOf_lt hm) (by rw [rowsOf_len]; omega))
  obtain ⟨A, cA, rfl, _⟩ := h
  unfold solQ
  have he : rowsR s.size u (crcN (clrN (bts s) u) 65535 ^^^ c) = rowsOf s u c := rfl
  rw [he] at HR
  unfold redQ at HX
  generalize rowsOf s u c = R at *
  generalize redS R = X at *
  clear he hok
  go_enter Try.func71, Try.ntmps71
  go_wp2_with (fail)
  refine HA.out.mono ?_; rintro e w1 ⟨rfl, hb1⟩
  go_wp2_with (fail)
  refine (HR.out _ hb1).mono ?_; rintro e w2 ⟨v2, rfl, o2, hb2⟩
  have z1 := hb1.size
  have hb02 := hb1.trans (hb2.mono z1)
  have z2 := hb02.size
  obtain ⟨A2, c2, rfl, _⟩ := OwnL.shape o2
  have HO2 := Lib.hid o2
  clear o2
  go_wp2_with (fail)
  refine (HX.out _ _ _ HO2.out).mono ?_; rintro e w3 ⟨v3, rfl, o3, hb3⟩
  have hb03 := hb02.trans (hb3.mono z2)
  cases X with
  | none =>
    go_wp2
    exact bodyPost_ret (v := .tuple #[.slice none 0 0, .int .i64 3]) (by simp [results, Try.results71, go_sem] <;> rfl) rfl ⟨_, rfl, OwnL.of_nil, hb03⟩
  | some x =>
    go_wp2
    exact bodyPost_ret (v := .tuple #[v3, .int .i64 0]) (by simp [results, Try.results71, go_sem] <;> rfl) rfl ⟨_, rfl, OwnL.base o3 z2, hb03⟩
def frE (s : ByteArray) (l : List Int) (c : Int) : Int × Int := if unkOk s l c then (match redS (rowsOf s (l.map Int.toNat) c.toNat) with | none => (0, 3) | some x => ((l.length : Int) - x.length, 0)) else (0, 1)
def frV (s : ByteArray) (l : List Int) (c : Int) : Value := .tuple #[.int .i64 (frE s l c).1, .int .i64 (frE s l c).2]
theorem frV_no {s : ByteArray} {l : List Int} {c : Int} (h : unkOk s l c = false) : frV s l c = .tuple #[.int .i64 0, .int .i64 1] := by unfold frV frE; rw [h]; rfl
theorem frV_none {s : ByteArray} {u : List Nat} {c : Nat} (h : unkOk s (intsN u) c = true) (hx : redS (rowsOf s u c) = none) : frV s (intsN u) c = .tuple #[.int .i64 0, .int .i64 3] := by unfold frV frE; rw [h, intsN_back, Int.toNat_natCast, hx]; rfl
theorem frV_some {s : ByteArray} {u : List Nat} {c : Nat} {x : List Rw} (h : unkOk s (intsN u) c = true) (hx : redS (rowsOf s u c) = some x) : frV s (intsN u) c = .tuple #[.int .i64 ((u.length : Int) - x.length), .int .i64 0] := by unfold frV frE; rw [h, intsN_back, Int.toNat_natCast, hx, intsN_len]; rfl
set_option maxRecDepth 20000 in
set_option maxHeartbeats 2000000 in
theorem free_s (s : ByteArray) (l : List Int) (v : Value) (c : Int) (w : World) (h : IntsAt w v l) (hm : l.length ≤ 1048576) (hs : s.size ≤ 1048576) :
    Calls Try.prog 34 #[.string s, v, .int .i64 c] w fun e w' => e = .returned (frV s l c) ∧ Below w.heap.size w w' := by
  cases hok : unkOk s l c
  · have HF := Lib.hid (frV_no hok)
    have HS := Lib.hid (solved_no s l v c w h hm hs hok)
    obtain ⟨A, cA, rfl, _⟩ := h
    go_enter Try.func34, Try.ntmps34
    go_wp2_with (fail)
    refine HS.out.mono ?_; rintro e w1 ⟨rfl, hb1⟩
    go_wp2
    rw [HF.out]
    exact bodyPost_ret (by simp [results, Try.results34, go_sem]; try rfl) rfl ⟨rfl, hb1⟩
  · obtain ⟨u, k, rfl, rfl, hk, hs1, hs2, hul, hub, hur⟩ := unk_nat hok
    have hok' : unkOk s (intsN u) (k : Int) = true := hok
    have HS := Lib.hid (solved_s s u v k w h hok' hub hs2 hul hk)
    obtain ⟨A, cA, hv, _⟩ := h
    rw [show (u.map fun i : Nat => (i : Int)).length = u.length by simp] at hv
    subst hv
    unfold solQ at HS
    cases hx : redS (rowsOf s u k) with
    | none =>
      have HF : Hid (frV s (u.map fun i : Nat => (i : Int)) (k : Int) = _) := Lib.hid (frV_none hok' hx)
      rw [hx] at HS
      go_enter Try.func34, Try.ntmps34
      go_wp2_with (fail)
      refine HS.out.mono ?_; rintro e w1 ⟨v1, rfl, o1, hb1⟩
      obtain ⟨A1, c1, rfl, _⟩ := OwnL.shape o1
      have hcd : cdO none = 3 := rfl
      go_wp2
      rw [HF.out]
      exact bodyPost_ret (by simp [results, Try.results34, go_sem]; try rfl) rfl ⟨rfl, hb1⟩
    | some x =>
      have HF : Hid (frV s (u.map fun i : Nat => (i : Int)) (k : Int) = _) := Lib.hid (frV_some hok' hx)
      have hxl : x.length ≤ 16 := by
        have := redS_ok (u := u.length) (by omega) (rowsR_lt s.size u (restOf s u k)) hx
        have h16 := rowsR_len s.size u (restOf s u k)
        have := this.2.2.2.2; omega
      rw [hx] at HS
      have HS' : Hid (Calls Try.prog 71 #[.string s, .slice A u.length cA, .int .i64 k] w fun e w' => ∃ v', e = .returned (.tuple #[v', .int .i64 0]) ∧ RowL .u64 107 w.heap.size w' v' x ∧ Below w.heap.size w w') := HS
      clear hx
      go_enter Try.func34, Try.ntmps34
      go_wp2_with (fail)
      refine HS'.out.mono ?_; rintro e w1 ⟨v1, rfl, o1, hb1⟩
      obtain ⟨A1, c1, rfl, _⟩ := OwnL.shape o1
      go_wp2
      rw [HF.out]
      exact bodyPost_ret (by simp [results, Try.results34, go_sem]; try rfl) rfl ⟨rfl, hb1⟩
set_option maxRecDepth 20000 in
set_option maxHeartbeats 2000000 in
theorem free_i (s : ByteArray) (l : List Int) (v : Value) (c : Int) (w : World) (h : IntsAt w v l) (hm : l.length ≤ 1048576) (hs : s.size ≤ 1048576) :
    Calls Try.prog 35 #[.string s, v, .int .i64 c] w fun e w' => e = .returned (frV s l c) ∧ Below w.heap.size w w' := by
  have HA := Lib.hid (ask_i s l v c w h hm hs)
  cases hok : unkOk s l c
  · have HF := Lib.hid (frV_no hok)
    rw [hok] at HA
    obtain ⟨A, cA, rfl, _⟩ := h
    go_enter Try.func35, Try.ntmps35
    go_wp2_with (fail)
    refine HA.out.mono ?_; rintro e w1 ⟨rfl, rfl⟩
    go_wp2
    rw [HF.out]
    exact bodyPost_ret (by simp [results, Try.results35, go_sem]; try rfl) rfl ⟨rfl, Below.refl _ _⟩
  · rw [hok] at HA
    obtain ⟨u, k, rfl, rfl, hk, hs1, hs2, hul, hub, hur⟩ := unk_nat hok
    have hok' : unkOk s (intsN u) (k : Int) = true := hok
    have HR := Lib.hid (rows_i s u v k w h hub hs2 hul hk)
    obtain ⟨A, cA, hv, _⟩ := h
    rw [show (u.map fun i : Nat => (i : Int)).length = u.length by simp] at hv
    subst hv
    have HX := Lib.hid (fun v1 w' (o : RowsAt .i64 w' v1 (rowsOf s u k)) => red_i (rowsOf s u k) v1 w' o (rowsOf_lt hul) (by rw [rowsOf_len]; omega))
    unfold redQ at HX
    have he : rowsR s.size u (crcN (clrN (bts s) u) 65535 ^^^ k) = rowsOf s u k := rfl
    have hbo := red_both piv_top hul (rowsR_lt s.size u (restOf s u k))
    have he2 : rowsR s.size u (restOf s u k) = rowsOf s u k := rfl
    rw [he2] at hbo
    rw [he] at HR
    clear hok
    rcases hbo with ⟨h1, h2, _⟩ | ⟨a, b, h1, h2, _, _, _, _, _, _, _, hab, hal⟩
    · have HF : Hid (frV s (u.map fun i : Nat => (i : Int)) (k : Int) = _) := Lib.hid (frV_none hok' h2)
      rw [h1] at HX
      clear h1 h2 he he2
      generalize rowsOf s u k = R at *
      go_enter Try.func35, Try.ntmps35
      go_wp2_with (fail)
      refine HA.out.mono ?_; rintro e w1 ⟨rfl, rfl⟩
      go_wp2_with (fail)
      refine HR.out.mono ?_; rintro e w2 ⟨v2, rfl, o2, hb2⟩
      have HRA := Lib.hid (RowsAt.own o2)
      obtain ⟨A2, c2, rfl, _⟩ := OwnL.shape o2
      have z2 := hb2.size
      go_wp2_with (fail)
      refine (HX.out _ _ HRA.out).mono ?_; rintro e w3 ⟨v3, rfl, o3, hb3⟩
      go_wp2
      rw [HF.out]
      exact bodyPost_ret (by simp [results, Try.results35, go_sem]; try rfl) rfl ⟨rfl, hb2.trans (hb3.mono z2)⟩
    · have HF : Hid (frV s (u.map fun i : Nat => (i : Int)) (k : Int) = _) := Lib.hid (frV_some hok' h2)
      rw [h1] at HX
      rw [← hab] at HF
      have hal16 : a.length ≤ 16 := by rw [rowsOf_len] at hal; exact hal
      clear h1 h2 he he2 hab
      generalize rowsOf s u k = R at *
      go_enter Try.func35, Try.ntmps35
      go_wp2_with (fail)
      refine HA.out.mono ?_; rintro e w1 ⟨rfl, rfl⟩
      go_wp2_with (fail)
      refine HR.out.mono ?_; rintro e w2 ⟨v2, rfl, o2, hb2⟩
      have HRA := Lib.hid (RowsAt.own o2)
      obtain ⟨A2, c2, rfl, _⟩ := OwnL.shape o2
      have z2 := hb2.size
      go_wp2_with (fail)
      refine (HX.out _ _ HRA.out).mono ?_; rintro e w3 ⟨v3, rfl, o3, hb3⟩
      have o3' : RowL .i64 83 w2.heap.size w3 v3 a := o3
      obtain ⟨A3, c3, rfl, _⟩ := OwnL.shape o3'
      go_wp2_with (first | (go_at_call 74; go_in) | (go_at_call 75; go_in))
      rw [HF.out]
      exact bodyPost_ret (by simp [results, Try.results35, go_sem]; try rfl) rfl ⟨rfl, hb2.trans (hb3.mono z2)⟩
end Go.Proofs.Ytklalbbacbaoiaa
