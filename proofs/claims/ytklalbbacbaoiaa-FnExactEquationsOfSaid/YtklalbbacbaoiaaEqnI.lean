/- EquationsOf: the contracts. -/
import Derived.Test.YtklalbbacbaoiaaEqnS
namespace Go.Proofs.Ytklalbbacbaoiaa
set_option linter.unusedVariables false
open Go.RowKit
def eoE (s : ByteArray) (l : List Int) (c : Int) : List Eqn × Int := if unkOk s l c then ((rowsOf s (l.map Int.toNat) c.toNat).map rowEqn, 0) else ([], 1)
theorem eoE_no {s : ByteArray} {l : List Int} {c : Int} (h : unkOk s l c = false) : eoE s l c = ([], 1) := by unfold eoE; rw [h]; rfl
theorem eoE_yes {s : ByteArray} {u : List Nat} {c : Nat} (h : unkOk s (intsN u) c = true) : eoE s (intsN u) c = ((rowsOf s u c).map rowEqn, 0) := by unfold eoE; rw [if_pos h, intsN_back, Int.toNat_natCast]
theorem eqs_cnt (rows : List Rw) : cntE (rows.map rowEqn) ≤ 65 * rows.length := by
  induction rows with
  | nil => simp [cntE]
  | cons e l ih =>
    have h1 : (rowEqn e).bits.length ≤ 64 := by show (intsN (bitsK e.m 64)).length ≤ 64; rw [intsN_len]; exact bitsK_len _ _
    rw [List.map_cons, cntE_cons, List.length_cons]; omega
theorem eoE_cnt (s : ByteArray) (l : List Int) (c : Int) : REqS.cnt (eoE s l c).1 ≤ 8388608 := by
  show cntE _ ≤ _
  unfold eoE
  split
  · have := eqs_cnt (rowsOf s (l.map Int.toNat) c.toNat)
    rw [rowsOf_len] at this
    exact Nat.le_trans this (by decide)
  · simp [cntE]
set_option maxRecDepth 20000 in
set_option maxHeartbeats 4000000 in
theorem eo_s (s : ByteArray) (l : List Int) (v : Value) (c : Int) (w : World) (h : IntsAt w v l) (hm : l.length ≤ 1048576) (hs : s.size ≤ 1048576) :
    Calls Try.prog 29 #[.string s, v, .int .i64 c] w fun e w' => REqS.retI w (eoE s l c).1 (eoE s l c).2 e w' := by
  have HA := Lib.hid (ask_s s l v c w h hm hs)
  cases hok : unkOk s l c
  · have HF := Lib.hid (eoE_no hok)
    rw [hok] at HA
    obtain ⟨A, cA, rfl, _⟩ := h
    go_enter Try.func29, Try.ntmps29
    go_wp2_with (fail)
    refine HA.out.mono ?_; rintro e w1 ⟨rfl, hb1⟩
    go_wp2
    exact bodyPost_ret (v := .tuple #[.slice none 0 0, .int .i64 1]) (by simp [results, Try.results29, go_sem]) rfl ⟨_, by rw [HF.out], by rw [HF.out]; exact ⟨[], rfl, EqT.nil _ _ _⟩, hb1⟩
  · obtain ⟨u, k, rfl, rfl, hk, hs1, hs2, hul, hub, hur⟩ := unk_nat hok
    have hok' : unkOk s (intsN u) (k : Int) = true := hok
    rw [hok] at HA
    have HF : Hid (eoE s (u.map fun i : Nat => (i : Int)) (k : Int) = _) := Lib.hid (eoE_yes hok')
    have HR := Lib.hid (fun w' (hb : Below w.heap.size w w') => rows_s s u v k w' (h.below hb) hub hs2 hul hk)
    have he : rowsR s.size u (crcN (clrN (bts s) u) 65535 ^^^ k) = rowsOf s u k := rfl
    rw [he] at HR
    have HLT := Lib.hid (rowsOf_lt (s := s) (c := k) hul)
    have hrl := rowsOf_len s u k
    have HQ := Lib.hid (fun W v (h : RowsAt .u64 W v (rowsOf s u k)) => eqns_s (rowsOf s u k) v W h (rowsOf_lt hul) (by omega))
    obtain ⟨A, cA, hv, _⟩ := h
    rw [show (u.map fun i : Nat => (i : Int)).length = u.length by simp] at hv
    subst hv
    generalize rowsOf s u k = R at *
    clear hok he hrl
    go_enter Try.func29, Try.ntmps29
    go_wp2_with (fail)
    refine HA.out.mono ?_; rintro e w1 ⟨rfl, hb1⟩
    go_wp2_with (fail)
    refine (HR.out _ hb1).mono ?_; rintro e w2 ⟨v2, rfl, o2, hb2⟩
    have HRA := Lib.hid (RowsAt.own o2)
    obtain ⟨A2, c2, rfl, _⟩ := OwnL.shape o2
    have z1 := hb1.size
    have hb02 := hb1.trans (hb2.mono z1)
    clear o2
    go_wp2_with (fail)
    refine (HQ.out _ _ HRA.out).mono ?_; rintro e w3 ⟨v3, rfl, o3, hb3⟩
    have z2 := hb02.size
    obtain ⟨pl, hp, ht⟩ := o3
    obtain ⟨A3, c3, rfl, _⟩ := OwnL.shape ht.row
    have HT := Lib.hid ht
    have HP := Lib.hid hp
    clear ht hp
    go_wp2
    exact bodyPost_ret (v := .tuple #[.slice A3 pl.length c3, .int .i64 0]) (by simp [results, Try.results29, go_sem]) rfl ⟨_, by rw [HF.out], by rw [HF.out]; exact ⟨pl, HP.out, ⟨OwnL.base HT.out.row z2, HT.out.lt, fun j p hj => ⟨OwnL.base (HT.out.parts j p hj).1 z2, (HT.out.parts j p hj).2⟩, HT.out.split⟩⟩, hb02.trans (hb3.mono z2)⟩
set_option maxRecDepth 20000 in
set_option maxHeartbeats 4000000 in
theorem eo_i (s : ByteArray) (l : List Int) (v : Value) (c : Int) (w : World) (h : IntsAt w v l) (hm : l.length ≤ 1048576) (hs : s.size ≤ 1048576) :
    Calls Try.prog 31 #[.string s, v, .int .i64 c] w fun e w' => REqS.retI w (eoE s l c).1 (eoE s l c).2 e w' := by
  obtain ⟨i1, ji, jz0, jz1, jz2⟩ := info_parts eqn_info
  have HA := Lib.hid (ask_i s l v c w h hm hs)
  cases hok : unkOk s l c
  · have HF := Lib.hid (eoE_no hok)
    rw [hok] at HA
    obtain ⟨A, cA, rfl, _⟩ := h
    go_enter Try.func31, Try.ntmps31
    go_wp2_with (fail)
    refine HA.out.mono ?_; rintro e w1 ⟨rfl, rfl⟩
    go_wp2
    exact bodyPost_ret (v := .tuple #[.slice none 0 0, .int .i64 1]) (by simp [results, Try.results31, go_sem]) rfl ⟨_, by rw [HF.out], by rw [HF.out]; exact ⟨[], rfl, EqT.nil _ _ _⟩, Below.refl _ _⟩
  · obtain ⟨u, k, rfl, rfl, hk, hs1, hs2, hul, hub, hur⟩ := unk_nat hok
    have hok' : unkOk s (intsN u) (k : Int) = true := hok
    rw [hok] at HA
    have HF : Hid (eoE s (u.map fun i : Nat => (i : Int)) (k : Int) = _) := Lib.hid (eoE_yes hok')
    have HR := Lib.hid (rows_i s u v k w h hub hs2 hul hk)
    have he : rowsR s.size u (crcN (clrN (bts s) u) 65535 ^^^ k) = rowsOf s u k := rfl
    rw [he] at HR
    have HLT := Lib.hid (rowsOf_lt (s := s) (c := k) hul)
    have hrl := rowsOf_len s u k
    obtain ⟨A, cA, hv, _⟩ := h
    rw [show (u.map fun i : Nat => (i : Int)).length = u.length by simp] at hv
    subst hv
    generalize rowsOf s u k = R at *
    have hrl' : R.length ≤ 16 := by omega
    clear hok he hrl
    go_enter Try.func31, Try.ntmps31
    go_wp2_with (fail)
    refine HA.out.mono ?_; rintro e w1 ⟨rfl, rfl⟩
    go_wp2_with (fail)
    refine HR.out.mono ?_; rintro e w2 ⟨v2, rfl, o2, hb2⟩
    have hRA := RowsAt.own o2
    clear o2
    obtain ⟨A2, c2, rfl, hA⟩ := hRA
    have hz2 := hb2.size
    go_wp2
    go_loopw [21, 8] (fun i x wr => ∃ (k : Nat) (pl : List (Eqn × Value)), k ≤ R.length ∧ i = .int .i64 k ∧ Below w2.heap.size w2 wr ∧ Hid (EqT w2.heap.size wr.heap.size wr x pl) ∧ Hid (pl.map Prod.fst = (R.take k).map rowEqn)) (fun i _ _ => R.length - (intOf i).toNat)
    case atStart => exact ⟨0, [], by omega, rfl, Below.refl _ _, Lib.hid (EqT.nil _ _ _), Lib.hid rfl⟩
    case round =>
      obtain ⟨k, pl, hk, rfl, hb2', HT, HP⟩ := hrel
      have zr := hb2'.size
      have hpl := rows_len HP.out
      obtain ⟨Ao, co, rfl, _⟩ := OwnL.shape HT.out.row
      by_cases hlt : k < R.length
      · obtain ⟨e, he⟩ : ∃ e, R[k]? = some e := ⟨R[k], List.getElem?_eq_getElem hlt⟩
        obtain ⟨g, rfl, hg, hcc⟩ := hA.resolve_left (by intro h0; rw [h0] at hlt; simp at hlt)
        have HPN := Lib.hid (fun bv => rows_take (bv := bv) HP.out he)
        have k0 := (hb2'.cell (p := ⟨g, _, none⟩) hg).trans (hcc k e he).1
        have k1 := (hb2'.cell (p := ⟨g, _, none⟩) hg).trans (hcc k e he).2
        have hem := HLT.out e (List.mem_of_getElem? he)
        have HEQ := Lib.hid (fun W => equation_i e.m (bi e.r) W hem)
        have HRB : Hid ((rowEqn e).bits = intsN (bitsK e.m 64)) := Lib.hid rfl
        have HRR : Hid ((rowEqn e).right = bi e.r) := Lib.hid rfl
        generalize rowEqn e = R1 at *
        generalize e.m = m at *
        generalize bi e.r = r at *
        generalize hwo : wr = wo at *; clear hwo
        have hB0 : Below wo.heap.size wo (wo.alloc (.cells #[.int .u64 m, .int .i64 r] 83)) := Below.alloc (Below.refl _ _) (Nat.le_refl _) _
        clear he hcc
        go_wp2_with (fail)
        refine (HEQ.out _).mono ?_; rintro e' w3 ⟨A3, n3, c3, rfl, o3, hb3⟩
        have HO3 := Lib.hid o3
        have hB3 : Below wo.heap.size wo w3 := hB0.trans (hb3.mono hB0.size)
        have hbT : Below wo.heap.size wo (w3.alloc (.cells #[.slice A3 n3 c3, .int .i64 r] 68)) := Below.alloc hB3 hB3.size _
        have HT2 := Lib.hid (HT.out.below hbT)
        have hbase := Nat.le_trans zr hbT.size
        have hB0s := hB0.size
        have HBV := Lib.hid (OwnL.base (OwnL.alloc HO3.out (.cells #[.slice A3 n3 c3, .int .i64 r] 68)) (Nat.le_trans zr hB0s))
        have HBN := Lib.hid (fun b (hb : (Value.slice A3 n3 c3).ownBlock = some b) => Nat.le_trans hB0s (World.ownsRow.lt HO3.out b hb).1)
        have hp1 : pl.length + 1 ≤ 16777216 := by omega
        have hone : ∀ u ∈ epc (R1, .slice A3 n3 c3), u.oneCell' = true := eqn_one _ ⟨_, _, _, rfl⟩
        clear o3 hb3 hB0 hB0s
        go_wp2_with (at_builtin; refine wpList_app1at epc 2 epc_len _ rfl _ _ _ rfl w2.heap.size 68 i1 (.agg #[.slice none 0 0, .int .i64 0]) 32 Try.underlying25 ji jz0 jz1 jz2 rfl (by decide) _ pl rfl HT2.out.row _ 1 (R1, .slice A3 n3 c3) rfl ?_ hone hp1 (by decide) hbase ?_; (· exact epc_news (by simp [go_sem]) (by rw [HRR.out]; simp [go_sem])); intro v' w8 how8 hg8 hbl8; have HT8 := Lib.hid (EqT.snoc HT2.out hbT.size (e := R1) (bv := .slice A3 n3 c3) (by rw [HRB.out]; exact HBV.out) HBN.out how8 hg8 hbl8); have hb8 : Below w2.heap.size w2 w8 := own_grown_below HT2.out.row (hb2'.trans (hbT.mono zr)) hg8 (Nat.le_refl _) hbase; clear how8 hg8 hbl8)
        go_roundw
        case rel => exact ⟨k + 1, _, by omega, by go_num, hb8, HT8, Lib.hid (HPN.out _)⟩
        case measure => simp [intOf]; omega
      · obtain rfl : k = R.length := by omega
        go_wp2
        exact bodyPost_ret (v := .tuple #[.slice Ao pl.length co, .int .i64 0]) (by simp [results, Try.results31, go_sem]) rfl ⟨_, by rw [HF.out], by rw [HF.out]; exact ⟨pl, by rw [HP.out, List.take_length], ⟨OwnL.base HT.out.row hz2, HT.out.lt, fun j p hj => ⟨OwnL.base (HT.out.parts j p hj).1 hz2, (HT.out.parts j p hj).2⟩, HT.out.split⟩⟩, hb2.trans (hb2'.mono hz2)⟩
end Go.Proofs.Ytklalbbacbaoiaa
