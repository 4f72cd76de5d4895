/- l23Size and l23Left of the reference: the walks. RestoreOne, impl and spec: the law and the walks. -/
import Derived.Test.YtfcdienphillnaaGreatCk27
import Derived.Test.YtfcdienphillnaaGreatCk26
namespace Go.Proofs.YtfcdienphillnaaGreat
set_option linter.unusedVariables false
set_option linter.unusedSimpArgs false
open Go.RowKit
theorem s1_zero {k : Nat} {mo : List ByteArray} {s : ByteArray} {X : Option Nat} (hs : mo[k]? = some s) (H : Hid (X = sz1 0 (mo.drop k))) : Hid (X = sz1 s.size (mo.drop (k + 1))) := by
  obtain ⟨hk, rfl⟩ := List.getElem?_eq_some_iff.1 hs
  exact Lib.hid (by rw [H.out, List.drop_eq_getElem_cons hk, sz1, if_pos rfl])
theorem s1_go {k c : Nat} {mo : List ByteArray} {s : ByteArray} {X : Option Nat} (hs : mo[k]? = some s) (H : Hid (X = sz1 c (mo.drop k))) (hc : c ≠ 0) (h : (!s.toList.isEmpty && decide (s.size ≠ c)) = false) : Hid (X = sz1 c (mo.drop (k + 1))) := by
  obtain ⟨hk, rfl⟩ := List.getElem?_eq_some_iff.1 hs
  exact Lib.hid (by rw [H.out, List.drop_eq_getElem_cons hk, sz1, if_neg hc, if_neg (by rw [h]; decide)])
theorem s1_no {k c : Nat} {mo : List ByteArray} {s : ByteArray} {X : Option Nat} (hs : mo[k]? = some s) (H : Hid (X = sz1 c (mo.drop k))) (hc : c ≠ 0) (h : (!s.toList.isEmpty && decide (s.size ≠ c)) = true) : X = none := by
  obtain ⟨hk, rfl⟩ := List.getElem?_eq_some_iff.1 hs
  rw [H.out, List.drop_eq_getElem_cons hk, sz1, if_neg hc, if_pos h]
theorem s1_end {k c : Nat} {mo : List ByteArray} {X : Option Nat} (hk : mo.length ≤ k) (H : Hid (X = sz1 c (mo.drop k))) : X = some c := by
  rw [H.out, List.drop_of_length_le hk, sz1]
theorem s2_has {L : List Int} {c k : Nat} {l : List ByteArray} {b : ByteArray} {X : Option Nat} (hs : l[k]? = some b) (H : Hid (X = sz2 L c k (l.drop k))) (h : hasB L k = true) : Hid (X = sz2 L c (k + 1) (l.drop (k + 1))) := by
  obtain ⟨hk, rfl⟩ := List.getElem?_eq_some_iff.1 hs
  exact Lib.hid (by rw [H.out, List.drop_eq_getElem_cons hk, sz2, if_pos h])
theorem s2_go {L : List Int} {c d k : Nat} {l : List ByteArray} {b : ByteArray} {X : Option Nat} (hs : l[k]? = some b) (H : Hid (X = sz2 L c k (l.drop k))) (h : hasB L k = false) (hd : d = if c = 0 then b.size else c) (h1 : b.size = d) (h2 : d ≠ 0) : Hid (X = sz2 L d (k + 1) (l.drop (k + 1))) := by
  obtain ⟨hk, rfl⟩ := List.getElem?_eq_some_iff.1 hs
  exact Lib.hid (by rw [H.out, List.drop_eq_getElem_cons hk, sz2, if_neg (by rw [h]; decide), ← hd, if_pos ⟨h1, h2⟩])
theorem s2_no {L : List Int} {c d k : Nat} {l : List ByteArray} {b : ByteArray} {X : Option Nat} (hs : l[k]? = some b) (H : Hid (X = sz2 L c k (l.drop k))) (h : hasB L k = false) (hd : d = if c = 0 then b.size else c) (h1 : ¬ (b.size = d ∧ d ≠ 0)) : X = none := by
  obtain ⟨hk, rfl⟩ := List.getElem?_eq_some_iff.1 hs
  rw [H.out, List.drop_eq_getElem_cons hk, sz2, if_neg (by rw [h]; decide), ← hd, if_neg h1]
theorem s2_end {L : List Int} {c k : Nat} {l : List ByteArray} {X : Option Nat} (hk : l.length ≤ k) (H : Hid (X = sz2 L c k (l.drop k))) : X = some c := by
  rw [H.out, List.drop_of_length_le hk, sz2]
set_option maxRecDepth 20000 in
set_option maxHeartbeats 4000000 in
theorem size_s (bl mo : List ByteArray) (L : List Int) (vb vl vm : Value) (w : World) (hb : StrL w vb bl) (hl : IntsAt w vl L) (hm : StrL w vm mo) (hn : bl.length ≤ 1048576) (hL : L.length ≤ 1048576) (hM : mo.length ≤ 2) :
    Calls Tryz.prog 172 #[vb, vl, vm] w fun e w' => e = .returned (.int .i64 (szS bl L mo)) ∧ w = w' := by
  have HIL := Lib.hid hl
  obtain ⟨Ab, cb, rfl, hAb⟩ := hb
  obtain ⟨Al, cl, rfl, hAl⟩ := hl
  obtain ⟨Am, cm, rfl, hAm⟩ := hm
  have HAB := Lib.hid (show ∀ k s, bl[k]? = some s → ∃ g, Ab = some ⟨g, 0, none⟩ ∧ w.cell? ⟨g, k, none⟩ = some (.string s) from fun k x hk => by
    obtain ⟨g, h1, h2, h3⟩ := hAb.resolve_left (by rintro rfl; simp at hk)
    exact ⟨g, h1, h3 k x hk⟩)
  have HAM := Lib.hid (show ∀ k s, mo[k]? = some s → ∃ g, Am = some ⟨g, 0, none⟩ ∧ w.cell? ⟨g, k, none⟩ = some (.string s) from fun k x hk => by
    obtain ⟨g, h1, h2, h3⟩ := hAm.resolve_left (by rintro rfl; simp at hk)
    exact ⟨g, h1, h3 k x hk⟩)
  clear hAb hAl hAm
  go_enter Tryz.func172, Tryz.ntmps172
  go_wp2
  go_loop [8, 7] (fun i z => ∃ k c : Nat, k ≤ mo.length ∧ i = .int .i64 k ∧ z = .int .i64 c ∧ Hid (sz1 0 mo = sz1 c (mo.drop k))) (fun i _ => mo.length - (intOf i).toNat)
  case atStart => exact ⟨0, 0, by omega, rfl, rfl, Lib.hid rfl⟩
  case round =>
    obtain ⟨k, c, hk, rfl, rfl, HK⟩ := hrel
    by_cases hlt : k < mo.length
    · obtain ⟨s, hs⟩ : ∃ s, mo[k]? = some s := ⟨mo[k], List.getElem?_eq_getElem hlt⟩
      obtain ⟨gm, rfl, p0⟩ := HAM.out k s hs
      have HS := Lib.hid hs
      clear hs
      by_cases hc : c = 0
      · subst hc
        have HN := s1_zero HS.out HK
        go_wp2
        go_round
        case rel => exact ⟨k + 1, _, by omega, by go_num, rfl, HN⟩
        case measure => simp [intOf]; omega
      · have hd : ((c : Int) == 0) = false := by rw [beq_eq_false_iff_ne]; omega
        cases he : s.toList.isEmpty
        · by_cases hz : s.size = c
          · have hd2 : ((s.size : Int) != (c : Int)) = false := by simp [hz]
            have HN := s1_go HS.out HK hc (by rw [he]; simp [hz])
            have HC := Lib.hid hc
            have HZ := Lib.hid hz
            clear hc hz
            go_wp2
            go_round
            case rel => exact ⟨k + 1, c, by omega, by go_num, rfl, HN⟩
            case measure => simp [intOf]; omega
          · have hd2 : ((s.size : Int) != (c : Int)) = true := by simp; omega
            have HN := Lib.hid (s1_no HS.out HK hc (by rw [he]; simp [hz]))
            have HZ : Hid (szS bl L mo = 0) := Lib.hid (by unfold szS; rw [HN.out])
            go_wp2
            go_ret
            exact ⟨ret_int (by rw [HZ.out]; rfl), rfl⟩
        · have HN := s1_go HS.out HK hc (by rw [he]; rfl)
          have HC := Lib.hid hc
          clear hc
          go_wp2
          go_round
          case rel => exact ⟨k + 1, c, by omega, by go_num, rfl, HN⟩
          case measure => simp [intOf]; omega
    · have H1 := Lib.hid (s1_end (by omega) HK)
      go_wp2
      go_loop [9, 7] (fun i z => ∃ k d : Nat, k ≤ bl.length ∧ i = .int .i64 k ∧ z = .int .i64 d ∧ Hid (sz2 L c 0 bl = sz2 L d k (bl.drop k))) (fun i _ => bl.length - (intOf i).toNat)
      case atStart => exact ⟨0, c, by omega, rfl, rfl, Lib.hid rfl⟩
      case round =>
        obtain ⟨j, d, hj, rfl, rfl, HJ⟩ := hrel
        by_cases hjl : j < bl.length
        · obtain ⟨b, hbj⟩ : ∃ b, bl[j]? = some b := ⟨bl[j], List.getElem?_eq_getElem hjl⟩
          obtain ⟨gb, rfl, p0⟩ := HAB.out j b hbj
          have HS := Lib.hid hbj
          have HCN := Lib.hid (has_s L j _ w HIL.out (by omega) (by omega))
          clear hbj
          cases hh : hasB L j
          · rw [hh] at HCN
            by_cases hd : d = 0
            · subst hd
              by_cases hz : b.size = 0
              · have hd2 : ((b.size : Int) == 0) = true := by simp [hz]
                have HN := Lib.hid (s2_no HS.out HJ hh (d := b.size) (by simp) (by omega))
                have HZ : Hid (szS bl L mo = 0) := Lib.hid (by unfold szS; rw [H1.out]; simp only []; rw [HN.out])
                go_wp2_with (go_at_call 204; refine HCN.out.mono ?_; rintro e' w4 ⟨rfl, rfl⟩)
                go_ret
                exact ⟨ret_int (by rw [HZ.out]; rfl), rfl⟩
              · have hd2 : ((b.size : Int) == 0) = false := by rw [beq_eq_false_iff_ne]; omega
                have HN := s2_go HS.out HJ hh (d := b.size) (by simp) rfl hz
                have HZ := Lib.hid hz
                clear hz
                go_wp2_with (go_at_call 204; refine HCN.out.mono ?_; rintro e' w4 ⟨rfl, rfl⟩)
                go_round
                case rel => exact ⟨j + 1, b.size, by omega, by go_num, rfl, HN⟩
                case measure => simp [intOf]; omega
            · have hd2 : ((d : Int) == 0) = false := by rw [beq_eq_false_iff_ne]; omega
              by_cases hz : b.size = d
              · have hd3 : ((b.size : Int) != (d : Int)) = false := by simp [hz]
                have HN := s2_go HS.out HJ hh (d := d) (by rw [if_neg hd]) hz hd
                have HZ := Lib.hid hz
                have HD := Lib.hid hd
                clear hz hd
                go_wp2_with (go_at_call 204; refine HCN.out.mono ?_; rintro e' w4 ⟨rfl, rfl⟩)
                go_round
                case rel => exact ⟨j + 1, d, by omega, by go_num, rfl, HN⟩
                case measure => simp [intOf]; omega
              · have hd3 : ((b.size : Int) != (d : Int)) = true := by simp; omega
                have HN := Lib.hid (s2_no HS.out HJ hh (d := d) (by rw [if_neg hd]) (by omega))
                have HZ : Hid (szS bl L mo = 0) := Lib.hid (by unfold szS; rw [H1.out]; simp only []; rw [HN.out])
                go_wp2_with (go_at_call 204; refine HCN.out.mono ?_; rintro e' w4 ⟨rfl, rfl⟩)
                go_ret
                exact ⟨ret_int (by rw [HZ.out]; rfl), rfl⟩
          · rw [hh] at HCN
            have HN := s2_has HS.out HJ hh
            go_wp2_with (go_at_call 204; refine HCN.out.mono ?_; rintro e' w4 ⟨rfl, rfl⟩)
            go_round
            case rel => exact ⟨j + 1, d, by omega, by go_num, rfl, HN⟩
            case measure => simp [intOf]; omega
        · have H2 := Lib.hid (s2_end (by omega) HJ)
          have HZ : Hid (szS bl L mo = if 64 < d ∨ 128 < bl.length ∨ bl.length = 0 then 0 else d) := Lib.hid (by unfold szS; rw [H1.out]; simp only []; rw [H2.out])
          by_cases h1 : 64 < d
          · have e1 : decide ((64 : Int) < (d : Int)) = true := decide_eq_true (by omega)
            have HF : Hid (szS bl L mo = 0) := Lib.hid (by rw [HZ.out, if_pos (by omega)])
            go_wp2
            go_ret
            exact ⟨ret_int (by rw [HF.out]; rfl), rfl⟩
          · have e1 : decide ((64 : Int) < (d : Int)) = false := decide_eq_false (by omega)
            by_cases h2 : 128 < bl.length
            · have e2 : decide ((128 : Int) < (bl.length : Int)) = true := decide_eq_true (by omega)
              have HF : Hid (szS bl L mo = 0) := Lib.hid (by rw [HZ.out, if_pos (by omega)])
              go_wp2
              go_ret
              exact ⟨ret_int (by rw [HF.out]; rfl), rfl⟩
            · have e2 : decide ((128 : Int) < (bl.length : Int)) = false := decide_eq_false (by omega)
              by_cases h3 : bl.length = 0
              · have e3 : ((bl.length : Int) == 0) = true := by simp [h3]
                have HF : Hid (szS bl L mo = 0) := Lib.hid (by rw [HZ.out, if_pos (by omega)])
                go_wp2
                go_ret
                exact ⟨ret_int (by rw [HF.out]; rfl), rfl⟩
              · have e3 : ((bl.length : Int) == 0) = false := by rw [beq_eq_false_iff_ne]; omega
                have HF : Hid (szS bl L mo = d) := Lib.hid (by rw [HZ.out, if_neg (by omega)])
                go_wp2
                go_ret
                exact ⟨ret_int (by rw [HF.out]), rfl⟩
def zerL (n : Nat) (L : List Int) (bl : List ByteArray) : List ByteArray := bl.mapIdx fun i b => if hasB L i = true then strN (List.replicate n 0) else b
theorem zer_len (n : Nat) (L : List Int) (bl : List ByteArray) : (zerL n L bl).length = bl.length := by simp [zerL]
theorem zer_get {n : Nat} {L : List Int} {bl : List ByteArray} {k : Nat} {b : ByteArray} (h : bl[k]? = some b) : (zerL n L bl)[k]? = some (if hasB L k = true then strN (List.replicate n 0) else b) := by
  unfold zerL; rw [List.getElem?_mapIdx, h]; rfl
set_option maxRecDepth 20000 in
set_option maxHeartbeats 4000000 in
theorem left_s (bl : List ByteArray) (L : List Int) (n : Nat) (vb vl : Value) (w : World) (hb : StrL w vb bl) (hl : IntsAt w vl L) (hn : bl.length ≤ 1048576) (hL : L.length ≤ 1048576) (hz : n ≤ 64) :
    Calls Tryz.prog 173 #[vb, vl, .int .i64 n] w fun e w' => RetL scell 1 9 w (zerL n L bl) e w' := by
  obtain ⟨i0, hi, hz0, hz1, hz2⟩ := info_parts scell_info
  have HIL := Lib.hid hl
  obtain ⟨Ab, cb, rfl, hAb⟩ := hb
  obtain ⟨Al, cl, rfl, hAl⟩ := hl
  have HAB := Lib.hid (show ∀ k s, bl[k]? = some s → ∃ g, Ab = some ⟨g, 0, none⟩ ∧ g < w.heap.size ∧ w.cell? ⟨g, k, none⟩ = some (.string s) from fun k x hk => by
    obtain ⟨g, h1, h2, h3⟩ := hAb.resolve_left (by rintro rfl; simp at hk)
    exact ⟨g, h1, h2, h3 k x hk⟩)
  have hzl := zer_len n L bl
  have HZG := Lib.hid (fun k b (h : bl[k]? = some b) => zer_get (n := n) (L := L) h)
  generalize zerL n L bl = zl at *
  clear hAb hAl
  go_enter Tryz.func173, Tryz.ntmps173
  go_wp2
  go_loopw [8, 7] (fun i out wr => ∃ k : Nat, k ≤ bl.length ∧ i = .int .i64 k ∧ Below w.heap.size w wr ∧ StringL w.heap.size wr out (zl.take k)) (fun i _ _ => bl.length - (intOf i).toNat)
  case atStart => exact ⟨0, by omega, rfl, (by repeat (first | exact Below.refl _ _ | refine Below.alloc ?_ (by first | omega | (simp; done) | (simp; omega)) _ | apply Below.drew | apply below_drewN | refine Below.setCell ?_ (by first | omega | (simp; done) | (simp; omega)) _ | refine Below.trans ?_ (Below.mono (by assumption) (by first | omega | (simp; done) | (simp; omega))))), by simpa using OwnL.of_empty w (Nat.le_refl _)⟩
  case round =>
    obtain ⟨k, hk, rfl, hbw, how⟩ := hrel
    have zr := hbw.size
    by_cases hlt : k < bl.length
    · obtain ⟨b, hbk⟩ : ∃ b, bl[k]? = some b := ⟨bl[k], List.getElem?_eq_getElem hlt⟩
      obtain ⟨gb, rfl, hgb, hcb⟩ := HAB.out k b hbk
      have p0 := (hbw.cell (p := ⟨gb, k, none⟩) hgb).trans hcb
      have HIL2 : Hid (IntsAt wr (.slice Al L.length cl) L) := Lib.hid (by
        obtain ⟨A', c', he, hA'⟩ := HIL.out
        obtain ⟨rfl, rfl⟩ : Al = A' ∧ cl = c' := by simpa using he
        refine ⟨_, _, rfl, hA'.imp id ?_⟩
        rintro ⟨g, rfl, hg, hc⟩
        exact ⟨g, rfl, by omega, fun k x hk => (hbw.cell (p := ⟨g, k, none⟩) hg).trans (hc k x hk)⟩)
      have HCN := Lib.hid (has_s L k _ wr HIL2.out (by omega) (by omega))
      have hzk := HZG.out k b hbk
      have htl : (zl.take k).length = k := by simp; omega
      have HO := Lib.hid how
      clear how hbk hcb
      cases hh : hasB L k
      · rw [hh] at HCN hzk
        have HT : Hid (zl.take (k + 1) = zl.take k ++ [b]) := Lib.hid (by
          obtain ⟨h1, h2⟩ := List.getElem?_eq_some_iff.1 hzk
          rw [List.take_succ_eq_append_getElem h1, h2]; rfl)
        clear hzk
        go_wp2_with (first | (go_at_call 204; refine HCN.out.mono ?_; rintro e' w4 ⟨rfl, rfl⟩) | (at_builtin; refine wpList_app1 scell 1 scell_len _ rfl _ _ _ rfl w.heap.size 9 i0 (.string .empty) 16 Tryz.underlying24 hi hz0 hz1 hz2 rfl (by decide) _ (zl.take k) rfl (HO.out.alloc _) _ 1 b rfl ?_ (by simp [scell, Value.oneCell']) (by omega) (by omega) (by simp; omega) ?_; (· intro j u hu; cases j with | zero => (simp [scell] at hu; subst hu; simp) | succ j => simp [scell] at hu); intro v' w5 how2 hg2))
        go_roundw
        case rel => exact ⟨k + 1, by omega, by go_num, own_grown_below (HO.out.alloc _) (Below.alloc hbw zr _) hg2 (Nat.le_refl _) (by simp; omega), by rw [HT.out]; exact how2⟩
        case measure => simp [intOf]; omega
      · rw [hh] at HCN hzk
        have HT : Hid (zl.take (k + 1) = zl.take k ++ [strN (List.replicate n 0)]) := Lib.hid (by
          obtain ⟨h1, h2⟩ := List.getElem?_eq_some_iff.1 hzk
          rw [List.take_succ_eq_append_getElem h1, h2]; rfl)
        obtain ⟨wb, hmk, hbuf, hb0, hwz⟩ := buf_made wr n (by omega)
        have hst := hbuf.str (n := n) (c := n) (by simp)
        have HOB := Lib.hid (OwnL.below HO.out hb0)
        have HBB := Lib.hid (hbw.trans (hb0.mono zr))
        have zwb : wr.heap.size ≤ wb.heap.size := hb0.size
        clear hzk hbuf hwz
        go_wp2_with (first | (go_at_call 204; refine HCN.out.mono ?_; rintro e' w4 ⟨rfl, rfl⟩) | (at_builtin; refine wpList_app1 scell 1 scell_len _ rfl _ _ _ rfl w.heap.size 9 i0 (.string .empty) 16 Tryz.underlying24 hi hz0 hz1 hz2 rfl (by decide) _ (zl.take k) rfl (HOB.out.alloc _) _ 1 (strN (List.replicate n 0)) rfl ?_ (by simp [scell, Value.oneCell']) (by omega) (by omega) (by simp; omega) ?_; (· intro j u hu; cases j with | zero => (simp [scell] at hu; subst hu; simp) | succ j => simp [scell] at hu); intro v' w5 how2 hg2))
        go_roundw
        case rel => exact ⟨k + 1, by omega, by go_num, own_grown_below (HOB.out.alloc _) (Below.alloc HBB.out (by omega) _) hg2 (Nat.le_refl _) (by simp; omega), by rw [HT.out]; exact how2⟩
        case measure => simp [intOf]; omega
    · go_wp2
      go_ret
      exact ⟨_, rfl, by rw [List.take_of_length_le (by omega)] at how; exact how, hbw⟩
end Go.Proofs.YtfcdienphillnaaGreat
namespace Go.Proofs.YtfcdienphillnaaGreat
set_option linter.unusedVariables false
set_option linter.unusedSimpArgs false
open Go.RowKit
theorem kn_mem {L : List Int} {j k : Nat} {bl : List ByteArray} {b : ByteArray} (h : bl[k]? = some b) (hh : hasB L (j + k) = false) : b ∈ knF L j bl := by
  induction bl generalizing j k with
  | nil => simp at h
  | cons a r ih =>
    unfold knF
    cases k with
    | zero =>
      obtain rfl : a = b := by simpa using h
      rw [if_neg (by rw [show j = j + 0 by omega, hh]; decide)]
      exact List.mem_cons_self
    | succ k =>
      have := ih (j := j + 1) (k := k) (by simpa using h) (by rw [← hh]; congr 1; omega)
      split
      · exact this
      · exact List.mem_cons_of_mem _ this
theorem left_sizes {L : List Int} {bl mo : List ByteArray} {n : Nat} (h : allSP n (ktF bl L mo)) : ∀ s ∈ leftG L bl, s.size = 0 ∨ s.size = n := by
  intro s hs
  obtain ⟨k, hk, he⟩ := List.mem_iff_getElem.1 hs
  rw [left_len] at hk
  have h1 := left_get (L := L) (List.getElem?_eq_getElem hk)
  rw [List.getElem?_eq_getElem (by rw [left_len]; exact hk), he] at h1
  obtain rfl := Option.some.inj h1
  cases hh : hasB L k
  · exact .inr (h _ (List.mem_append_left _ (kn_mem (j := 0) (List.getElem?_eq_getElem hk) (by rw [Nat.zero_add]; exact hh))))
  · exact .inl rfl
theorem bts_zeroP (n : Nat) : bts (strN (List.replicate n 0)) = List.replicate n 0 := bts_strN zeros_lt
theorem plus_zero {p : List Nat} {f n : Nat} (hp : p.length = n) : plusN p f (List.replicate n 0) = p := by
  refine List.ext_getElem (by simp [plusN, hp]) fun k h1 h2 => ?_
  simp [plusN, gmul_of_zero]
theorem par_zer {L : List Int} {n k : Nat} {l : List ByteArray} {p q : List Nat} (hn : n ≠ 0) (hp : p.length = n) (hq : q.length = n) (hl : ∀ i b, l[i]? = some b → hasB L (k + i) = false → b.size = n) :
    parF p q k (l.mapIdx fun i b => if hasB L (k + i) = true then strN (List.replicate n 0) else b) = parF p q k (l.mapIdx fun i b => if hasB L (k + i) = true then .empty else b) := by
  induction l generalizing k p q with
  | nil => rfl
  | cons b r ih =>
    rw [List.mapIdx_cons, List.mapIdx_cons]
    have hstep : ∀ (z : ByteArray), (r.mapIdx fun i b => if hasB L (k + (i + 1)) = true then z else b) = (r.mapIdx fun i b => if hasB L (k + 1 + i) = true then z else b) := fun z => by
      congr 1; funext i b; rw [show k + (i + 1) = k + 1 + i by omega]
    rw [hstep, hstep]
    have hl' : ∀ i b, r[i]? = some b → hasB L (k + 1 + i) = false → b.size = n := fun i b' hb hh => hl (i + 1) b' (by simpa using hb) (by rw [← hh]; congr 1; omega)
    by_cases hb : hasB L (k + 0) = true
    · rw [if_pos hb, if_pos hb]
      unfold parF
      rw [if_neg (by rw [strN_size]; simpa using hn), if_pos (by rfl), bts_zeroP, plus_zero hp, plus_zero hq]
      exact ih hp hq hl'
    · rw [if_neg hb, if_neg hb]
      have hbs := hl 0 b rfl (by simpa using hb)
      unfold parF
      split
      · exact ih hp hq hl'
      · exact ih (by rw [plusN_len (by rw [bts_len]; omega)]; exact hp) (by rw [plusN_len (by rw [bts_len]; omega)]; exact hq) hl'
theorem par_left {L : List Int} {n : Nat} {bl mo : List ByteArray} (hn : n ≠ 0) (h : allSP n (ktF bl L mo)) : parF (List.replicate n 0) (List.replicate n 0) 0 (zerL n L bl) = parF (List.replicate n 0) (List.replicate n 0) 0 (leftG L bl) := by
  have := par_zer (L := L) (k := 0) (l := bl) (p := List.replicate n 0) (q := List.replicate n 0) hn (List.length_replicate) (List.length_replicate) (fun i b hb hh => h b (List.mem_append_left _ (kn_mem (j := 0) hb hh)))
  simp only [Nat.zero_add] at this
  exact this
def r1K (bl : List ByteArray) (i : Int) (p : ByteArray) : Nat := szK bl.length (ktF bl [i] [p])
def r1X (bl : List ByteArray) (i : Int) (p : ByteArray) : List Nat := xorN (parF (List.replicate (r1K bl i p) 0) (List.replicate (r1K bl i p) 0) 0 (leftG [i] bl)).1 (bts p)
def r1E (bl : List ByteArray) (i : Int) (p : ByteArray) : ByteArray × Int :=
  if inB i 0 ((bl.length : Int) - 1) = false then (.empty, 2) else if r1K bl i p = 0 ∨ p.size = 0 then (.empty, 1) else (strN (r1X bl i p), 0)
def r1V (bl : List ByteArray) (i : Int) (p : ByteArray) : Value := .tuple #[.string (r1E bl i p).1, .int .i64 (r1E bl i p).2]
theorem r1_2 {bl : List ByteArray} {i : Int} {p : ByteArray} (h : inB i 0 ((bl.length : Int) - 1) = false) : r1V bl i p = .tuple #[.string .empty, .int .i64 2] := by unfold r1V r1E; rw [if_pos h]
theorem r1_1 {bl : List ByteArray} {i : Int} {p : ByteArray} (h : inB i 0 ((bl.length : Int) - 1) = true) (h1 : r1K bl i p = 0 ∨ p.size = 0) : r1V bl i p = .tuple #[.string .empty, .int .i64 1] := by unfold r1V r1E; rw [if_neg (by rw [h]; decide), if_pos h1]
theorem r1_0 {bl : List ByteArray} {i : Int} {p : ByteArray} (h : inB i 0 ((bl.length : Int) - 1) = true) (h1 : ¬ (r1K bl i p = 0 ∨ p.size = 0)) : r1V bl i p = .tuple #[.string (strN (r1X bl i p)), .int .i64 0] := by unfold r1V r1E; rw [if_neg (by rw [h]; decide), if_neg h1]
end Go.Proofs.YtfcdienphillnaaGreat
