/- Votes over readings, impl and spec: the walks. -/
import Derived.Test.YtfcdienphillnaaGreatLr21
import Derived.Test.YtfcdienphillnaaGreatLr24
namespace Go.Proofs.YtfcdienphillnaaGreat
set_option linter.unusedVariables false
set_option linter.unusedSimpArgs false
open Go.RowKit
theorem strN_at {l : List Nat} (hl : ∀ x ∈ l, x < 256) {i b : Nat} (h : l[i]? = some b) : ∃ hi : i < (strN l).size, ((strN l)[i]).toNat = b := by
  have hi : i < (strN l).size := by rw [strN_size]; exact (List.getElem?_eq_some_iff.1 h).1
  refine ⟨hi, ?_⟩
  have := bts_get hi
  rw [bts_strN hl, h] at this
  exact (Option.some.inj this).symm
theorem voteV_at {D : List ByteArray} {i : Nat} (hi : i < voteN D) : (voteV D)[i]? = some (byteV D i) := by
  unfold voteN at hi
  unfold voteV; rw [List.getElem?_map, List.getElem?_range hi]; rfl
theorem voteV_lt (D : List ByteArray) : ∀ x ∈ voteV D, x < 256 := by
  intro x hx
  unfold voteV at hx
  obtain ⟨i, _, rfl⟩ := List.mem_map.1 hx
  exact byteV_lt D i
theorem voteV_len (D : List ByteArray) : (voteV D).length = voteN D := by unfold voteV voteN; simp
theorem cb_yes {D : List ByteArray} {i k b : Nat} {s : ByteArray} (hs : D[k]? = some s) (hi : i < s.size) (hb : b < 256) (h : s[i].toNat = b) : cntBk D i (k + 1) b = cntBk D i k b + 1 := by
  rw [cnt_next hs hi b hb, if_pos h.symm, h]
theorem cb_no {D : List ByteArray} {i k b : Nat} {s : ByteArray} (hs : D[k]? = some s) (hi : i < s.size) (hb : b < 256) (h : ¬ s[i].toNat = b) : cntBk D i (k + 1) b = cntBk D i k b := by
  rw [cnt_next hs hi b hb, if_neg (fun e => h e.symm)]
theorem cb_end (D : List ByteArray) (i b : Nat) : cntBk D i D.length b = cntBV D i b := by unfold cntBk; rw [List.take_length]
theorem maj_yes {D : List ByteArray} {i : Nat} (h : D.length < 2 * cntBV D i (byteV D i)) : majB D i = true := by unfold majB; exact decide_eq_true h
theorem maj_no {D : List ByteArray} {i : Nat} (h : ¬ D.length < 2 * cntBV D i (byteV D i)) : majB D i = false := by unfold majB; exact decide_eq_false h
theorem u8_eq {a b : Nat} : (((a : Int)) == ((b : Int))) = decide (a = b) := by
  by_cases h : a = b
  · subst h; simp
  · rw [decide_eq_false h, beq_eq_false_iff_ne]; omega
theorem voteV_take {D : List ByteArray} {i : Nat} (hi : i < voteN D) : (voteV D).take (i + 1) = (voteV D).take i ++ [byteV D i] := by
  obtain ⟨h1, h2⟩ := List.getElem?_eq_some_iff.1 (voteV_at hi)
  rw [List.take_succ_eq_append_getElem h1, h2]
set_option maxRecDepth 20000 in
set_option maxHeartbeats 4000000 in
theorem votd_i (B : Nat) (D : List ByteArray) (v : Value) (w : World) (h : StringL B w v D) (hn : D.length ≤ 1048576) (n : Nat) (hs : ∀ s ∈ D, s.size = n) (hn2 : n ≤ 1048576) :
    Calls Tryz.prog 90 #[v] w fun r w' => r = .returned (.tuple #[.string (voteE D).1, .bool (voteE D).2]) ∧ Below w.heap.size w w' := by
  by_cases h2 : D.length < 2
  · have HF := Lib.hid (vo_short h2)
    obtain ⟨A, c, rfl, hA⟩ := OwnL.shape h
    have hd : decide ((D.length : Int) < 2) = true := decide_eq_true (by omega)
    clear hA h
    go_enter Tryz.func90, Tryz.ntmps90
    go_wp2
    exact bodyPost_ret (v := .tuple #[.string .empty, .bool false]) (by simp [results, Tryz.results90, go_sem] <;> rfl) rfl ⟨by rw [HF.out], Below.refl _ _⟩
  · have h0 : D ≠ [] := by intro e; rw [e] at h2; simp at h2
    have HV := Lib.hid (vote_i B D v w h hn h0 n hs hn2)
    obtain ⟨A, c, rfl, hA⟩ := OwnL.shape h
    obtain ⟨g, rfl, _, hg⟩ := hA.resolve_left h0
    have HC := Lib.hid (fun k s (hk : D[k]? = some s) => StringL.at_ h rfl hk)
    have hl : 0 < D.length := List.length_pos_iff.2 h0
    obtain ⟨s0, hs0⟩ : ∃ s, D[0]? = some s := ⟨D[0], List.getElem?_eq_getElem hl⟩
    have hvn : voteN D = n := by unfold voteN; rw [List.getD_eq_getElem?_getD, hs0]; exact hs s0 (List.mem_of_getElem? hs0)
    have HY := Lib.hid (fun hh => vo_yes (D := D) (by omega) hh)
    have HN := Lib.hid (fun (i : Nat) (hi : i < voteN D) (h : majB D i = false) => vo_no hi h)
    have HA := Lib.hid (fun (i : Nat) (hi : i < voteN D) => strN_at (voteV_lt D) (voteV_at hi))
    have hsz : (strN (voteV D)).size = n := by rw [strN_size, voteV_len, hvn]
    have HS := Lib.hid hs
    have hd : decide ((D.length : Int) < 2) = false := decide_eq_false (by omega)
    generalize strN (voteV D) = S at *
    rw [hvn] at HY HN HA
    clear hA h h0 hs0 hs hvn
    subst hsz
    go_enter Tryz.func90, Tryz.ntmps90
    go_wp2_with (fail)
    refine HV.out.mono ?_; rintro r w1 ⟨rfl, hb1⟩
    have hz1 := hb1.size
    go_wp2_with (fail)
    go_loopw [16] (fun i wr => ∃ k : Nat, k ≤ S.size ∧ i = .int .i64 k ∧ Below w.heap.size w wr ∧ Hid (∀ j, j < k → majB D j = true)) (fun i _ => S.size - (intOf i).toNat)
    case atStart => exact ⟨0, by omega, rfl, hb1, Lib.hid fun j hj => by omega⟩
    case round =>
      clear hb1 hz1
      obtain ⟨i, hi, rfl, hb1, HM⟩ := hrel
      by_cases hlt : i < S.size
      · obtain ⟨hiS, hSb⟩ := HA.out i hlt
        have hb256 := byteV_lt D i
        go_wp2_with (fail)
        go_loopw [21, 6] (fun j m wx => ∃ k y : Nat, k ≤ D.length ∧ j = .int .i64 k ∧ m = .int .i64 y ∧ y ≤ k ∧ Below w.heap.size w wx ∧ Hid (cntBk D i k (byteV D i) = y)) (fun j _ _ => D.length - (intOf j).toNat)
        case atStart => exact ⟨0, 0, by omega, rfl, rfl, by omega, hb1, Lib.hid (by unfold cntBk cntBV; simp)⟩
        case round =>
          clear hb1
          obtain ⟨k, y, hk, rfl, rfl, hy, hb1, HK⟩ := hrel
          by_cases hltk : k < D.length
          · obtain ⟨s, hs⟩ : ∃ s, D[k]? = some s := ⟨D[k], List.getElem?_eq_getElem hltk⟩
            have q0 := (hb1.cell (p := ⟨g, k, none⟩) hg).trans (HC.out k s hs)
            have hsz1 := HS.out s (List.mem_of_getElem? hs)
            have his : i < s.size := by omega
            by_cases hc : s[i].toNat = byteV D i
            · have HN2 : Hid (cntBk D i (k + 1) (byteV D i) = y + 1) := Lib.hid (by rw [cb_yes hs his hb256 hc, HK.out])
              have he : (((s[i].toNat : Nat) : Int) == ((S[i].toNat : Nat) : Int)) = true := by rw [u8_eq, hSb]; exact decide_eq_true hc
              clear hs hsz1 hc hSb
              go_wp2_with (fail)
              go_quiet (fail)
              go_wp2_with (fail)
              go_roundw
              case rel => exact ⟨k + 1, y + 1, by omega, by go_num, by go_num, by omega, below_drewNQ hb1 _, HN2⟩
              case measure => simp [intOf]; omega
            · have HN2 : Hid (cntBk D i (k + 1) (byteV D i) = y) := Lib.hid (by rw [cb_no hs his hb256 hc, HK.out])
              have he : (((s[i].toNat : Nat) : Int) == ((S[i].toNat : Nat) : Int)) = false := by rw [u8_eq, hSb]; exact decide_eq_false hc
              clear hs hsz1 hc hSb
              go_wp2_with (fail)
              go_quiet (fail)
              go_wp2_with (fail)
              go_roundw
              case rel => exact ⟨k + 1, y, by omega, by go_num, rfl, by omega, below_drewNQ hb1 _, HN2⟩
              case measure => simp [intOf]; omega
          · obtain rfl : k = D.length := by omega
            have HX : Hid (cntBV D i (byteV D i) = y) := Lib.hid (by rw [← cb_end]; exact HK.out)
            clear HK hSb
            by_cases hm : D.length < 2 * y
            · have HM2 : Hid (∀ j, j < i + 1 → majB D j = true) := Lib.hid fun j hj => by
                by_cases e : j = i
                · subst e; exact maj_yes (by rw [HX.out]; exact hm)
                · exact HM.out j (by omega)
              have hd1 : decide (2 * (y : Int) ≤ (D.length : Int)) = false := decide_eq_false (by omega)
              go_wp2_with (fail)
              go_roundw
              case rel => exact ⟨i + 1, by omega, by go_num, hb1, HM2⟩
              case measure => simp [intOf]; omega
            · have HF := Lib.hid (HN.out i hlt (maj_no (by rw [HX.out]; exact hm)))
              have hd1 : decide (2 * (y : Int) ≤ (D.length : Int)) = true := decide_eq_true (by omega)
              go_wp2_with (fail)
              exact bodyPost_ret (v := .tuple #[.string .empty, .bool false]) (by simp [results, Tryz.results90, go_sem] <;> rfl) rfl ⟨by rw [HF.out], hb1⟩
      · have HF := Lib.hid (HY.out (fun j hj => HM.out j (by omega)))
        go_wp2_with (fail)
        exact bodyPost_ret (v := .tuple #[.string S, .bool true]) (by simp [results, Tryz.results90, go_sem] <;> rfl) rfl ⟨by rw [HF.out], hb1⟩
def mosR (D : List ByteArray) (i : Nat) : Nat := bif majB D i then byteV D i else 0
theorem mosR_yes {D : List ByteArray} {i : Nat} (h : majB D i = true) : mosR D i = byteV D i := by unfold mosR; rw [h]; rfl
theorem mosR_no {D : List ByteArray} {i : Nat} (h : majB D i = false) : mosR D i = 0 := by unfold mosR; rw [h]; rfl
set_option maxRecDepth 20000 in
set_option maxHeartbeats 4000000 in
theorem mosv_s (B : Nat) (D : List ByteArray) (v : Value) (i : Nat) (w : World) (h : StringL B w v D) (hn : D.length ≤ 1048576) (n : Nat) (hs : ∀ s ∈ D, s.size = n) (hn2 : n ≤ 1048576) (hi : i < n) (h0 : D ≠ []) :
    Calls Tryz.prog 117 #[v, .int .i64 i] w fun r w' => r = .returned (.tuple #[.int .u8 (mosR D i : Nat), .bool (majB D i)]) ∧ Below w.heap.size w w' := by
  obtain ⟨A, c, rfl, hA⟩ := OwnL.shape h
  obtain ⟨g, rfl, _, hg⟩ := hA.resolve_left h0
  have HC := Lib.hid (fun k s (hk : D[k]? = some s) => StringL.at_ h rfl hk)
  have HS := Lib.hid hs
  clear hA h h0 hs
  go_enter Tryz.func117, Tryz.ntmps117
  go_wp2_with (fail)
  go_loopw [6] (fun j wr => ∃ k : Nat, k ≤ D.length ∧ j = .int .i64 k ∧ Below w.heap.size w wr ∧ Hid (∀ (q : Nat) (s : ByteArray), q < k → D[q]? = some s → ¬ D.length < 2 * cntBV D i (s.data.toList.getD i 0).toNat)) (fun j _ => D.length - (intOf j).toNat)
  case atStart => exact ⟨0, by omega, rfl, Below.refl _ _, Lib.hid fun j s hj => by omega⟩
  case round =>
    obtain ⟨k, hk, rfl, hb1, HM⟩ := hrel
    by_cases hlt : k < D.length
    · obtain ⟨t, ht⟩ : ∃ s, D[k]? = some s := ⟨D[k], List.getElem?_eq_getElem hlt⟩
      have q1 := (hb1.cell (p := ⟨g, k, none⟩) hg).trans (HC.out k t ht)
      have hst := HS.out t (List.mem_of_getElem? ht)
      have hit : i < t.size := by omega
      have hb256 : t[i].toNat < 256 := t[i].toNat_lt
      have HT := Lib.hid ht
      have hbt := byte_at hit
      clear ht hst
      go_wp2_with (fail)
      go_loopw [8, 7] (fun j m wx => ∃ q y : Nat, q ≤ D.length ∧ j = .int .i64 q ∧ m = .int .i64 y ∧ y ≤ q ∧ Below w.heap.size w wx ∧ Hid (cntBk D i q t[i].toNat = y)) (fun j _ _ => D.length - (intOf j).toNat)
      case atStart => exact ⟨0, 0, by omega, rfl, rfl, by omega, hb1, Lib.hid (by unfold cntBk cntBV; simp)⟩
      case round =>
        clear hb1 q1
        obtain ⟨q, y, hq, rfl, rfl, hy, hb1, HK⟩ := hrel
        have q1 := (hb1.cell (p := ⟨g, k, none⟩) hg).trans (HC.out k t HT.out)
        by_cases hltq : q < D.length
        · obtain ⟨s, hs⟩ : ∃ s, D[q]? = some s := ⟨D[q], List.getElem?_eq_getElem hltq⟩
          have q0 := (hb1.cell (p := ⟨g, q, none⟩) hg).trans (HC.out q s hs)
          have hsz1 := HS.out s (List.mem_of_getElem? hs)
          have his : i < s.size := by omega
          by_cases hc : s[i].toNat = t[i].toNat
          · have HN2 : Hid (cntBk D i (q + 1) t[i].toNat = y + 1) := Lib.hid (by rw [cb_yes hs his hb256 hc, HK.out])
            have he : (((s[i].toNat : Nat) : Int) == ((t[i].toNat : Nat) : Int)) = true := by rw [u8_eq]; exact decide_eq_true hc
            clear hs hsz1 hc
            go_wp2_with (fail)
            go_quiet (fail)
            go_wp2_with (fail)
            go_roundw
            case rel => exact ⟨q + 1, y + 1, by omega, by go_num, by go_num, by omega, below_drewNQ hb1 _, HN2⟩
            case measure => simp [intOf]; omega
          · have HN2 : Hid (cntBk D i (q + 1) t[i].toNat = y) := Lib.hid (by rw [cb_no hs his hb256 hc, HK.out])
            have he : (((s[i].toNat : Nat) : Int) == ((t[i].toNat : Nat) : Int)) = false := by rw [u8_eq]; exact decide_eq_false hc
            clear hs hsz1 hc
            go_wp2_with (fail)
            go_quiet (fail)
            go_wp2_with (fail)
            go_roundw
            case rel => exact ⟨q + 1, y, by omega, by go_num, rfl, by omega, below_drewNQ hb1 _, HN2⟩
            case measure => simp [intOf]; omega
        · obtain rfl : q = D.length := by omega
          have HX : Hid (cntBV D i t[i].toNat = y) := Lib.hid (by rw [← cb_end]; exact HK.out)
          clear HK
          by_cases hm : D.length < 2 * y
          · have HJ := maj_is hb256 (by rw [HX.out]; exact hm)
            have HF1 := Lib.hid HJ.1
            have HF2 := Lib.hid HJ.2
            have hd1 : decide (2 * (y : Int) > (D.length : Int)) = true := decide_eq_true (by omega)
            have hd2 : decide ((D.length : Int) < 2 * (y : Int)) = true := decide_eq_true (by omega)
            clear HJ
            go_wp2_with (fail)
            exact bodyPost_ret (v := .tuple #[.int .u8 ((t[i].toNat : Nat) : Int), .bool true]) (by simp [results, Tryz.results117, go_sem] <;> rfl) rfl ⟨by rw [mosR_yes HF2.out, HF2.out, HF1.out], hb1⟩
          · have HM2 : Hid (∀ (q : Nat) (s : ByteArray), q < k + 1 → D[q]? = some s → ¬ D.length < 2 * cntBV D i (s.data.toList.getD i 0).toNat) := Lib.hid fun q s hq hs => by
              by_cases e : q = k
              · subst e
                have hh := HT.out
                rw [hs] at hh
                obtain rfl := Option.some.inj hh
                rw [hbt, HX.out]; exact hm
              · exact HM.out q s (by omega) hs
            have hd1 : decide (2 * (y : Int) > (D.length : Int)) = false := decide_eq_false (by omega)
            have hd2 : decide ((D.length : Int) < 2 * (y : Int)) = false := decide_eq_false (by omega)
            go_wp2_with (fail)
            go_roundw
            case rel => exact ⟨k + 1, by omega, by go_num, hb1, HM2⟩
            case measure => simp [intOf]; omega
    · have HF : Hid (majB D i = false) := Lib.hid (by
        cases hmj : majB D i
        · rfl
        · obtain ⟨q, s, hs, e⟩ := maj_has hmj
          have hql := (List.getElem?_eq_some_iff.1 hs).1
          have := HM.out q s (by omega) hs
          rw [e, UInt8.toNat_ofNat', Nat.mod_eq_of_lt (byteV_lt D i)] at this
          unfold majB at hmj
          exact absurd (of_decide_eq_true hmj) this)
      go_wp2_with (fail)
      exact bodyPost_ret (v := .tuple #[.int .u8 0, .bool false]) (by simp [results, Tryz.results117, go_sem] <;> rfl) rfl ⟨by rw [mosR_no HF.out, HF.out]; rfl, hb1⟩
set_option maxRecDepth 20000 in
set_option maxHeartbeats 4000000 in
theorem votd_s (B : Nat) (D : List ByteArray) (v : Value) (w : World) (h : StringL B w v D) (hn : D.length ≤ 1048576) (n : Nat) (hs : ∀ s ∈ D, s.size = n) (hn2 : n ≤ 1048576) (hn1 : 1 ≤ n) :
    Calls Tryz.prog 78 #[v] w fun r w' => r = .returned (.tuple #[.string (voteE D).1, .bool (voteE D).2]) ∧ Below w.heap.size w w' := by
  obtain ⟨i1, ji, jz0, jz1, jz2⟩ := info_parts ucell_info
  by_cases h2 : D.length < 2
  · have HF := Lib.hid (vo_short h2)
    obtain ⟨A, c, rfl, hA⟩ := OwnL.shape h
    have hd : decide ((D.length : Int) < 2) = true := decide_eq_true (by omega)
    clear hA h
    go_enter Tryz.func78, Tryz.ntmps78
    go_wp2
    exact bodyPost_ret (v := .tuple #[.string .empty, .bool false]) (by simp [results, Tryz.results78, go_sem] <;> rfl) rfl ⟨by rw [HF.out], Below.refl _ _⟩
  · have h0 : D ≠ [] := by intro e; rw [e] at h2; simp at h2
    have HMS := Lib.hid (fun (i : Nat) (hi : i < n) (w' : World) (hb : Below w.heap.size w w') => mosv_s B D v i w' (OwnL.below h hb) hn n hs hn2 hi h0)
    obtain ⟨A, c, rfl, hA⟩ := OwnL.shape h
    obtain ⟨g, rfl, _, hg⟩ := hA.resolve_left h0
    have hl : 0 < D.length := List.length_pos_iff.2 h0
    obtain ⟨s0, hs0⟩ : ∃ s, D[0]? = some s := ⟨D[0], List.getElem?_eq_getElem hl⟩
    have HC := Lib.hid (StringL.at_ h rfl hs0)
    have hvn : voteN D = n := by unfold voteN; rw [List.getD_eq_getElem?_getD, hs0]; exact hs s0 (List.mem_of_getElem? hs0)
    have hs00 := hs s0 (List.mem_of_getElem? hs0)
    have HY := Lib.hid (fun hh => vo_yes (D := D) (by omega) hh)
    have HN := Lib.hid (fun (i : Nat) (hi : i < voteN D) (h : majB D i = false) => vo_no hi h)
    have HT := Lib.hid (fun (i : Nat) (hi : i < voteN D) => voteV_take hi)
    have hvl := voteV_len D
    have hd : decide ((D.length : Int) < 2) = false := decide_eq_false (by omega)
    rw [hvn] at HY HN HT hvl
    clear hA h hs0 hs hvn
    subst hs00
    generalize voteV D = V at *
    go_enter Tryz.func78, Tryz.ntmps78
    go_wp2_with (fail)
    go_loopw [5, 4] (fun ii out wr => ∃ k : Nat, k ≤ s0.size ∧ ii = .int .i64 k ∧ Below w.heap.size w wr ∧ BytesL w.heap.size wr out (V.take k) ∧ Hid (∀ j, j < k → majB D j = true)) (fun ii _ _ => s0.size - (intOf ii).toNat)
    case atStart => exact ⟨0, by omega, rfl, Below.alloc (Below.refl _ _) (Nat.le_refl _) _, OwnL.of_empty w (Nat.le_refl _), Lib.hid fun j hj => by omega⟩
    case round =>
      obtain ⟨k, hk, rfl, hb, how, HM⟩ := hrel
      have zr := hb.size
      have q0 := (hb.cell (p := ⟨g, 0, none⟩) hg).trans HC.out
      have htl : (V.take k).length = k := by rw [List.length_take]; omega
      by_cases hlt : k < s0.size
      · have HM1 := Lib.hid (HMS.out k hlt wr hb)
        have HO := Lib.hid how
        clear how
        cases hm : majB D k
        · have HF := Lib.hid (HN.out k hlt hm)
          rw [hm, mosR_no hm] at HM1
          clear HMS
          go_wp2_with (fail)
          refine HM1.out.mono ?_; rintro r w2 ⟨rfl, hb2⟩
          go_wp2_with (fail)
          exact bodyPost_ret (v := .tuple #[.string .empty, .bool false]) (by simp [results, Tryz.results78, go_sem] <;> rfl) rfl ⟨by rw [HF.out], hb.trans (hb2.mono zr)⟩
        · have HTT := Lib.hid (HT.out k hlt)
          have HMN : Hid (∀ j, j < k + 1 → majB D j = true) := Lib.hid fun j hj => by
            by_cases e : j = k
            · subst e; exact hm
            · exact HM.out j (by omega)
          rw [hm, mosR_yes hm] at HM1
          have hbv := byteV_lt D k
          generalize byteV D k = bv at *
          clear HMS hm
          go_wp2_with (fail)
          refine HM1.out.mono ?_; rintro r w2 ⟨rfl, hb2⟩
          have z2 := hb2.size
          have HO2 := Lib.hid (OwnL.below HO.out hb2)
          have HB2 := hb.trans (hb2.mono zr)
          clear HO HM1
          go_wp2_with (at_builtin; refine stopQ ?_)
          intro _
          refine wpList_app1 ucell 1 ucell_len _ rfl _ _ _ rfl w.heap.size 5 i1 (.int .u8 0) 1 Tryz.underlying65 ji jz0 jz1 jz2 rfl (by decide) _ (V.take k) rfl (HO2.out.alloc _) _ 1 bv rfl ?_ (by simp [ucell, Value.oneCell']) (by omega) (by omega) (by simp; omega) ?_
          · intro j u hu; cases j with | zero => (simp [ucell] at hu; subst hu; simp) | succ j => simp [ucell] at hu
          intro v' w5 how2 hg2
          go_wp2_with (fail)
          go_roundw
          case rel => exact ⟨k + 1, by omega, by go_num, own_grown_below (HO2.out.alloc _) (HB2.alloc (by omega) _) hg2 (Nat.le_refl _) (by simp; omega), by rw [HTT.out]; exact how2, HMN⟩
          case measure => simp [intOf]; omega
      · have HF := Lib.hid (HY.out (fun j hj => HM.out j (by omega)))
        obtain rfl : k = s0.size := by omega
        rw [List.take_of_length_le (by omega)] at how
        obtain ⟨A8, c8, rfl, hA8⟩ := OwnL.shape how
        obtain ⟨g8, rfl, _, _⟩ := hA8.resolve_left (by intro e; rw [e] at hvl; simp at hvl; omega)
        have hst := (BytesL.buf how rfl).str (n := s0.size) (c := c8) hvl
        clear hA8 how HMS HY HN HT
        go_wp2_with (fail)
        exact bodyPost_ret (v := .tuple #[.string (strN V), .bool true]) (by simp [results, Tryz.results78, go_sem] <;> rfl) rfl ⟨by rw [HF.out], hb⟩
end Go.Proofs.YtfcdienphillnaaGreat
