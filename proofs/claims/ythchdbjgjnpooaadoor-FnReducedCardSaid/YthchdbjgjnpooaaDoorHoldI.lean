/- The laws' drawn equations, and whether values hold them: the walks. -/
import Derived.Test.YthchdbjgjnpooaaDoorHoldP
import Derived.Test.YthchdbjgjnpooaaDoorDrwQ
namespace Go.Proofs.YthchdbjgjnpooaaDoor
set_option linter.unusedVariables false
set_option linter.unusedSimpArgs false
open Go.RowKit
theorem EqOwn.base {B B' : Nat} {w : World} {v : Value} {l : List Eqn} (h : EqOwn B w v l) (hB : B' ≤ B) : EqOwn B' w v l := by
  obtain ⟨A, c, rfl, h⟩ := h
  refine ⟨A, c, rfl, h.imp id ?_⟩
  rintro ⟨g, rfl, h1, h2, h3⟩
  exact ⟨g, rfl, by omega, h2, fun k e he => by obtain ⟨bv, p, q, r⟩ := h3 k e he; exact ⟨bv, p, OwnL.base q hB, r⟩⟩
set_option maxHeartbeats 1000000 in
theorem a2eqns_s (A : Option Addr) (n c : Nat) (w : World) (h : BytesIn w A n) (hn : n ≤ 1048576) :
    Calls Tryd.prog 6 #[.slice A n c] w fun e w' => ∃ (v : Value) (l : List Eqn) (N : Nat), e = .returned (.tuple #[v, .int .i64 N]) ∧ EqOwn w.heap.size w' v l ∧ validE l N = true ∧ l.length ≤ 8 ∧ (∀ e ∈ l, e.bits.length ≤ 8) ∧ Below w.heap.size w w' := by
  have hD : DrAt (w.alloc (.cells #[.slice A n c, .int .i64 0, .int .u64 0] 70)) w.heap.size A n c 0 := by
    refine ⟨by simp, by simp, by simp, ⟨0, by simp⟩, by simp, ?_⟩
    rcases h with h | ⟨b, o, h1, h2, h3⟩
    · exact .inl h
    · exact .inr ⟨b, o, h1, h2, fun j hj => by
        obtain ⟨x, hx, hc⟩ := h3 j hj
        exact ⟨x, hx, (World.cell?_alloc_old _ _ _ (Nat.ne_of_lt h2)).trans hc⟩⟩
  have HG := drawEq_s w.heap.size A n c 0 _ hD hn (by omega)
  clear h hD
  go_enter Tryd.func6, Tryd.ntmps6
  go_wp2_with (first | (go_at_call 19; refine HG.mono ?_; rintro e w1 ⟨v, l, N, rfl, ht, hl, hbl, hN, hC⟩; have hE := ht.own; have hbw : Below w.heap.size w w1 := (Below.alloc (Below.refl _ _) (Nat.le_refl _) _).trans ⟨hC.os, hC.tape, hC.output, hC.size, fun k hk => hC.block k (by simp; omega) (by omega)⟩; have HV := Lib.hid (validE_s _ l v N w1 hE (by omega) (fun e he => by have := hbl e he; omega) (by omega)); have hE0 : EqOwn w.heap.size w1 v l := EqOwn.base hE (by simp); clear ht hC hE HG; cases hv : validE l N <;> rw [hv] at HV) | (go_at_call 20; refine HV.out.mono ?_; rintro e w2 ⟨rfl, hb2⟩) | go_in)
  · have hbw2 := hbw.trans (hb2.mono hbw.size)
    go_wp2
    go_ret2
    exact ⟨_, [], 4, rfl, ⟨_, 0, rfl, .inl rfl⟩, by decide, by simp, by simp, Below.alloc hbw2 hbw2.size _⟩
  · obtain ⟨N', rfl, _⟩ := valid_ok hv
    have hbw2 := hbw.trans (hb2.mono hbw.size)
    have hE2 := hE0.below hb2
    obtain ⟨A1, c1, rfl, _⟩ := hE0
    go_wp2
    go_ret2
    exact ⟨_, l, N', rfl, hE2, hv, hl, hbl, hbw2⟩
theorem sumV_next {vs : List Nat} {l : List Int} {j : Nat} {x : Int} {s t : Nat} (hx : l[j]? = some x) (H : Hid (s + sumV vs (l.drop j) = t)) : Hid (s + vs.getD x.toNat 0 + sumV vs (l.drop (j + 1)) = t) := by
  obtain ⟨hj, rfl⟩ := List.getElem?_eq_some_iff.1 hx
  have := H.out
  rw [List.drop_eq_getElem_cons hj, sumV] at this
  exact Lib.hid (by omega)
theorem sumV_end {vs : List Nat} {l : List Int} {j : Nat} {s t : Nat} (hj : l.length ≤ j) (H : Hid (s + sumV vs (l.drop j) = t)) : s = t := by
  have := H.out
  rw [List.drop_of_length_le hj, sumV] at this; omega
theorem hold_yes {vs : List Nat} {l : List Eqn} {k : Nat} {e : Eqn} {X : Bool} (he : l[k]? = some e) (H : Hid (X = holdL vs (l.drop k))) (h : (e.right.toNat + sumV vs e.bits) % 2 = 0) : Hid (X = holdL vs (l.drop (k + 1))) := by
  obtain ⟨hk, rfl⟩ := List.getElem?_eq_some_iff.1 he
  refine Lib.hid ?_
  rw [H.out, List.drop_eq_getElem_cons hk]
  unfold holdL
  rw [List.all_cons, holdE, decide_eq_true h, Bool.true_and]
theorem hold_no {vs : List Nat} {l : List Eqn} {k : Nat} {e : Eqn} {X : Bool} (he : l[k]? = some e) (H : Hid (X = holdL vs (l.drop k))) (h : ¬ (e.right.toNat + sumV vs e.bits) % 2 = 0) : X = false := by
  obtain ⟨hk, rfl⟩ := List.getElem?_eq_some_iff.1 he
  rw [H.out, List.drop_eq_getElem_cons hk]
  unfold holdL
  rw [List.all_cons, holdE, decide_eq_false h, Bool.false_and]
theorem hold_end {vs : List Nat} {l : List Eqn} {k : Nat} {X : Bool} (hk : l.length ≤ k) (H : Hid (X = holdL vs (l.drop k))) : X = true := by
  rw [H.out, List.drop_of_length_le hk]; rfl
set_option maxRecDepth 20000 in
set_option maxHeartbeats 4000000 in
theorem a2holds (B B2 : Nat) (l : List Eqn) (v vv : Value) (vs : List Nat) (w : World) (h : EqOwn B w v l) (hv : Int64L B2 w vv (intsN vs)) (hok : ∀ e ∈ l, EqOk vs.length e) (hl : l.length ≤ 64) (hbl : ∀ e ∈ l, e.bits.length ≤ 1048576) (hvs : ∀ x ∈ vs, x ≤ 1) (hvl : vs.length ≤ 64) :
    Calls Tryd.prog 9 #[v, vv] w fun e w' => e = .returned (.bool (holdL vs l)) ∧ Below w.heap.size w w' := by
  have HOK := Lib.hid hok
  have HBL := Lib.hid hbl
  have HVS := Lib.hid hvs
  have HV := Lib.hid (fun (k x : Nat) (hk : vs[k]? = some x) => (show ∃ gv, (∃ A1 c1, vv = .slice A1 vs.length c1 ∧ A1 = some ⟨gv, 0, none⟩) ∧ gv < w.heap.size ∧ w.cell? ⟨gv, k, none⟩ = some (.int .i64 (x : Int)) by
    obtain ⟨A1, c1, e1, h1⟩ := ints_shape hv
    obtain ⟨gv, e2, _, h2⟩ := h1.resolve_left (by intro h0; rw [h0] at hk; simp at hk)
    subst e1 e2
    exact ⟨gv, ⟨_, _, rfl, rfl⟩, h2, ints_cell hv hk⟩))
  obtain ⟨Av, cv, rfl, _⟩ := ints_shape hv
  obtain ⟨A, cA, rfl, hA⟩ := h
  clear hok hbl hvs hv
  go_enter Tryd.func9, Tryd.ntmps9
  go_wp2
  go_loopw [5] (fun i wr => ∃ k : Nat, k ≤ l.length ∧ i = .int .i64 k ∧ Below w.heap.size w wr ∧ Hid (holdL vs l = holdL vs (l.drop k))) (fun i _ => l.length - (intOf i).toNat)
  case atStart => exact ⟨0, by omega, rfl, Below.refl _ _, Lib.hid rfl⟩
  case round =>
    obtain ⟨k, hk, rfl, hb, HK⟩ := hrel
    by_cases hlt : k < l.length
    · obtain ⟨e, he⟩ : ∃ e, l[k]? = some e := ⟨l[k], List.getElem?_eq_getElem hlt⟩
      obtain ⟨g, rfl, _, hg, hcc⟩ := hA.resolve_left (by intro h0; rw [h0] at hlt; simp at hlt)
      obtain ⟨bv, c1, c2, c3⟩ := hcc k e he
      have hbn := HBL.out e (List.mem_of_getElem? he)
      have hek := HOK.out e (List.mem_of_getElem? he)
      have HEB := Lib.hid hek.b
      obtain ⟨r, hr, hr1⟩ : ∃ r : Nat, e.right = (r : Int) ∧ r ≤ 1 := ⟨e.right.toNat, by rcases hek.r with h | h <;> omega, by rcases hek.r with h | h <;> omega⟩
      have HY := Lib.hid (fun hh => hold_yes he HK hh)
      have HN := Lib.hid (fun hh => hold_no he HK hh)
      obtain ⟨A2, cb, rfl, hA2⟩ := OwnL.shape c2
      have HC2 : Hid (∀ (j : Nat) (x : Int), e.bits[j]? = some x → ∃ gb, A2 = some ⟨gb, 0, none⟩ ∧ gb < w.heap.size ∧ w.cell? ⟨gb, j, none⟩ = some (.int .i64 x)) := Lib.hid (fun j x hj => by
        obtain ⟨gb, rfl, _, hgb⟩ := hA2.resolve_left (by intro h0; rw [h0] at hj; simp at hj)
        have := OwnL.at1 icell_len c2 hj (j := 0) rfl
        exact ⟨gb, rfl, hgb, by simpa using this⟩)
      have q0 := (hb.cell (p := ⟨g, _, none⟩) hg).trans c1
      have q1 := (hb.cell (p := ⟨g, _, none⟩) hg).trans c3
      have hgw : g < wr.heap.size := Nat.lt_of_lt_of_le hg hb.size
      rw [hr] at q1 HY HN
      have HT0 : Hid (r + sumV vs (e.bits.drop 0) = (r : Int).toNat + sumV vs e.bits) := Lib.hid (by simp)
      generalize hT : (r : Int).toNat + sumV vs e.bits = T at *
      generalize e.bits = bl at *
      clear c1 c2 c3 hcc he hek hA2 hT hr
      generalize hwo : wr = wo at *; clear hwo
      go_wp2
      go_loopw [7, 6] (fun i q wx => ∃ j s : Nat, j ≤ bl.length ∧ i = .int .i64 j ∧ q = .int .i64 s ∧ s ≤ 1 + j ∧ Below wo.heap.size wo wx ∧ Hid (s + sumV vs (bl.drop j) = T)) (fun i _ _ => bl.length - (intOf i).toNat)
      case atStart => exact ⟨0, r, by omega, rfl, rfl, by omega, Below.refl _ _, HT0⟩
      case round =>
        clear HT0
        obtain ⟨j, s, hj, rfl, rfl, hs, hbx, HS⟩ := hrel
        have r0 := (hbx.cell (p := ⟨g, k * 2, none⟩) hgw).trans q0
        by_cases hltj : j < bl.length
        · obtain ⟨x, hx⟩ : ∃ x, bl[j]? = some x := ⟨bl[j], List.getElem?_eq_getElem hltj⟩
          obtain ⟨hx0, hx1⟩ := HEB.out x (List.mem_of_getElem? hx)
          obtain ⟨q, rfl⟩ := Int.eq_ofNat_of_zero_le hx0
          have hqv : q < vs.length := by omega
          obtain ⟨gb, rfl, hgb, hcb⟩ := HC2.out j _ hx
          obtain ⟨y, hy⟩ : ∃ y, vs[q]? = some y := ⟨vs[q], List.getElem?_eq_getElem hqv⟩
          have hy1 := HVS.out y (List.mem_of_getElem? hy)
          obtain ⟨gv, hgv, hgv2, hcv⟩ := HV.out q y hy
          have hgd : vs.getD (q : Int).toNat 0 = y := by rw [Int.toNat_natCast, List.getD_eq_getElem?_getD, hy]; rfl
          have HN2 := Lib.hid (sumV_next hx HS).out
          rw [hgd] at HN2
          have r1 := (hbx.cell (p := ⟨gb, j, none⟩) (Nat.lt_of_lt_of_le hgb hb.size)).trans ((hb.cell (p := ⟨gb, j, none⟩) hgb).trans hcb)
          have r2 := (hbx.cell (p := ⟨gv, q, none⟩) (Nat.lt_of_lt_of_le hgv2 hb.size)).trans ((hb.cell (p := ⟨gv, q, none⟩) hgv2).trans hcv)
          obtain rfl : Av = some ⟨gv, 0, none⟩ := by obtain ⟨A1, c1, e1, e2⟩ := hgv; injection e1 with e3 _ _; rw [e3, e2]
          clear hx hcb hcv hgd hgv
          go_wp2
          go_roundw
          case rel => exact ⟨j + 1, s + y, by omega, by go_num, by go_num, by omega, hbx, HN2⟩
          case measure => simp [intOf]; omega
        · obtain rfl : j = bl.length := by omega
          have hsT := sumV_end (Nat.le_refl _) HS
          subst hsT
          have m1 : (s : Int).tmod 2 = ((s % 2 : Nat) : Int) := by rw [Int.tmod_eq_emod_of_nonneg (by omega)]; push_cast; rfl
          have m2 : (s : Int) % 2 = ((s % 2 : Nat) : Int) := by push_cast; rfl
          have hb2 := hb.trans (hbx.mono hb.size)
          by_cases h0 : s % 2 = 0
          · have HN3 := Lib.hid (HY.out h0)
            rw [h0] at m1 m2
            clear h0
            go_wp2
            go_roundw
            case rel => exact ⟨k + 1, by omega, by go_num, hb2, HN3.out⟩
            case measure => simp [intOf]; omega
          · have HN3 := Lib.hid (HN.out h0)
            rw [show s % 2 = 1 by omega] at m1 m2
            clear h0
            go_wp2
            go_ret
            exact ⟨ret_bool HN3.out.symm, hb2⟩
    · have HE := Lib.hid (hold_end (by omega) HK)
      go_wp2
      go_ret
      exact ⟨ret_bool HE.out.symm, hb⟩
set_option maxHeartbeats 2000000 in
theorem a2same (l : List Int) (va vb : Value) (Ba Bb : Nat) (w : World) (ha : Int64L Ba w va l) (hb0 : Int64L Bb w vb l) (hn : l.length ≤ 8388608) :
    Calls Tryd.prog 11 #[va, vb] w fun e w' => e = .returned (.bool true) ∧ Qt w w' := by
  obtain ⟨A, c, rfl, hA⟩ := ha.shape
  obtain ⟨A', c', rfl, hA'⟩ := hb0.shape
  by_cases hl0 : l = []
  · subst hl0
    go_enter Tryd.func11, Tryd.ntmps11
    go_wp2
    refine wp_loop_once ?_
    go_wp2
    go_ret
    exact ⟨rfl, Qt.refl _⟩
  · obtain ⟨ga, rfl, _, hga⟩ := hA.resolve_left hl0
    obtain ⟨gb, rfl, _, hgb⟩ := hA'.resolve_left hl0
    clear hA hA'
    go_enter Tryd.func11, Tryd.ntmps11
    go_wp2
    go_loopw [5] (fun i wr => ∃ k : Nat, k ≤ l.length ∧ i = .int .i64 k ∧ Qt w wr) (fun i _ => l.length - (intOf i).toNat)
    case atStart => exact ⟨0, by omega, rfl, Qt.refl _⟩
    case round =>
      obtain ⟨k, hk, rfl, hq⟩ := hrel
      by_cases hltk : k < l.length
      · obtain ⟨e, he⟩ : ∃ e, l[k]? = some e := ⟨l[k]'(by omega), List.getElem?_eq_getElem (by omega)⟩
        have r0 : wr.cell? ⟨ga, k, none⟩ = some (.int .i64 e) := (hq.cell _).trans (Int64L.at_ ha rfl he)
        have s0 : wr.cell? ⟨gb, k, none⟩ = some (.int .i64 e) := (hq.cell _).trans (Int64L.at_ hb0 rfl he)
        have j0 : (0 : Int) ≤ (k : Int) := by omega
        have j1 : (k : Int) < (l.length : Int) := by omega
        go_wp2
        go_quiet (fail)
        go_wp2
        go_roundw
        case rel => exact ⟨k + 1, by omega, by go_num, hq.drewN _⟩
        case measure => simp [intOf]; omega
      · go_wp2
        go_ret
        exact ⟨rfl, hq⟩
end Go.Proofs.YthchdbjgjnpooaaDoor
