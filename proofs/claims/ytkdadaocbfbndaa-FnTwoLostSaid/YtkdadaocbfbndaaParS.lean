/- l23Group, l23Make, MakeParity: the walks. -/
import Derived.Test.YtkdadaocbfbndaaPar
namespace Go.Proofs.Ytkdadaocbfbndaa
set_option linter.unusedVariables false
open Go.RowKit

theorem sz_yes {n k : Nat} {l : List ByteArray} {s : ByteArray} (hs : l[k]? = some s) (H : Hid (sizesAre n l = sizesAre n (l.drop k))) (h : s.size = n) : Hid (sizesAre n l = sizesAre n (l.drop (k + 1))) := by
  obtain ⟨hk, rfl⟩ := List.getElem?_eq_some_iff.1 hs
  exact Lib.hid (by rw [H.out, List.drop_eq_getElem_cons hk]; unfold sizesAre; rw [List.all_cons, decide_eq_true h, Bool.true_and])
theorem sz_no {n k : Nat} {l : List ByteArray} {s : ByteArray} (hs : l[k]? = some s) (H : Hid (sizesAre n l = sizesAre n (l.drop k))) (h : ¬ s.size = n) : sizesAre n l = false := by
  obtain ⟨hk, rfl⟩ := List.getElem?_eq_some_iff.1 hs
  rw [H.out, List.drop_eq_getElem_cons hk]; unfold sizesAre; rw [List.all_cons, decide_eq_false h, Bool.false_and]
set_option maxHeartbeats 1000000 in
theorem group_s (l : List ByteArray) (v : Value) (w : World) (h : StrL w v l) (hm : l.length ≤ maxLen) :
    Calls Try.prog 43 #[v] w fun e w' => e = .returned (.bool (groupB l)) ∧ Qt w w' := by
  have hml : l.length ≤ 9223372036854775807 := by unfold maxLen at hm; omega
  obtain ⟨A, c, rfl, hA⟩ := h
  by_cases hb : 1 ≤ l.length ∧ l.length ≤ 128
  · have b0 : inB l.length 1 128 = true := inB_t (by omega)
    rcases hA with rfl | ⟨g, rfl, hg, hc⟩
    · simp at hb
    obtain ⟨s0, h0⟩ : ∃ s, l[0]? = some s := ⟨l[0]'(by omega), List.getElem?_eq_getElem (by omega)⟩
    have p0 := hc 0 s0 h0
    have H1 := Lib.hid (groupB_at h0 hb.2)
    have HC := Lib.hid hc
    have hl0 : 0 < l.length := hb.1
    clear h0 hc
    cases hs : inB s0.size 1 64
    · go_enter Try.func43, Try.ntmps43
      go_wp2_with (first | (go_at_call 36; refine (in_s _ _ _ _).mono ?_; rintro e w1 ⟨rfl, rfl⟩))
      go_ret
      have := inB_no hs
      refine ⟨ret_bool ?_, Qt.refl _⟩
      rw [H1.out]
      have e : (decide (1 ≤ s0.size) && decide (s0.size ≤ 64)) = false := by simp; omega
      rw [e]; rfl
    · have := inB_yes hs
      have H2 : Hid (groupB l = sizesAre s0.size l) := Lib.hid (by
        have e : (decide (1 ≤ s0.size) && decide (s0.size ≤ 64)) = true := by simp; omega
        rw [H1.out, e, Bool.true_and])
      go_enter Try.func43, Try.ntmps43
      go_wp2_with (first | (go_at_call 36; refine (in_s _ _ _ _).mono ?_; rintro e w1 ⟨rfl, rfl⟩))
      go_loopw [3] (fun i wr => ∃ k : Nat, k ≤ l.length ∧ i = .int .i64 k ∧ Qt w wr ∧ Hid (sizesAre s0.size l = sizesAre s0.size (l.drop k))) (fun i _ => l.length - (intOf i).toNat)
      case atStart => exact ⟨0, by omega, rfl, Qt.refl _, Lib.hid rfl⟩
      case round =>
        obtain ⟨k, hk, rfl, hq, HK⟩ := hrel
        by_cases hlt : k < l.length
        · obtain ⟨s, hs⟩ : ∃ s, l[k]? = some s := ⟨l[k], List.getElem?_eq_getElem hlt⟩
          have pk := (hq.cell _).trans (HC.out k s hs)
          have pz := (hq.cell _).trans p0
          have HS := Lib.hid hs
          clear hs
          by_cases hsz : s.size = s0.size
          · have hd : ((s.size : Int) != (s0.size : Int)) = false := by simp [hsz]
            have HX := Lib.hid hsz
            clear hsz
            go_wp2
            go_quiet (fail)
            go_wp2
            go_roundw
            case rel => exact ⟨k + 1, by omega, by go_num, hq.drewN _, sz_yes HS.out HK HX.out⟩
            case measure => simp [intOf]; omega
          · have hd : ((s.size : Int) != (s0.size : Int)) = true := by simp; omega
            have HX := Lib.hid hsz
            clear hsz
            go_wp2
            go_quiet (fail)
            go_wp2
            go_ret
            exact ⟨ret_bool (H2.out.trans (sz_no HS.out HK HX.out)).symm, hq.drewN _⟩
        · go_wp2
          go_ret
          exact ⟨ret_bool (by rw [H2.out, HK.out, List.drop_of_length_le (by omega)]; rfl), hq⟩
  · have b0 : inB l.length 1 128 = false := inB_f (by omega)
    have HF : Hid (groupB l = false) := Lib.hid (by
      by_cases h : 128 < l.length
      · exact groupB_long h
      · obtain rfl : l = [] := List.eq_nil_of_length_eq_zero (by omega)
        rfl)
    clear hA
    go_enter Try.func43, Try.ntmps43
    go_wp2_with (first | (go_at_call 36; refine (in_s _ _ _ _).mono ?_; rintro e w1 ⟨rfl, rfl⟩))
    go_ret
    exact ⟨ret_bool HF.out.symm, Qt.refl _⟩
theorem quiet_plus (g c f n : Nat) (l : List Nat) (s : ByteArray) (hn : l.length = n) (hl1 : l.length ≤ s.size) (hs : s.size ≤ 2097152) (hf : f < 256) (hlb : ∀ x ∈ l, x < 256) :
    Hid (∀ w : World, g < w.heap.size → Buf w g l → Calls Try.prog 37 #[.slice (some ⟨g, 0, none⟩) n c, .int .i64 f, .string s] w fun e w' => e = .returned (.tuple #[]) ∧ Buf w' g (plusN l f (bts s)) ∧ Chg g (g + 1) w w' ∧ w'.heap.size = w.heap.size) := by
  subst hn
  exact Lib.hid fun w hg hB => plus_s g c f l s w hg hB hl1 hs hf hlb
set_option maxRecDepth 20000 in
set_option maxHeartbeats 1000000 in
theorem make_s (l : List ByteArray) (n : Nat) (v : Value) (w : World) (h : StrL w v l) (hm : l.length ≤ 1048576) (hl : ∀ s ∈ l, s.size = n) (hn : n ≤ 1048576) (hn1 : 1 ≤ n) :
    Calls Try.prog 44 #[v, .int .i64 n] w fun e w' => e = .returned (.tuple #[.slice (some ⟨w.heap.size, 0, none⟩) n n, .slice (some ⟨w.heap.size + 1, 0, none⟩) n n]) ∧ Buf w' w.heap.size (parF (List.replicate n 0) (List.replicate n 0) 0 l).1 ∧ Buf w' (w.heap.size + 1) (parF (List.replicate n 0) (List.replicate n 0) 0 l).2 ∧ Below w.heap.size w w' ∧ w.heap.size + 2 ≤ w'.heap.size := by
  obtain ⟨A, c, rfl, hA⟩ := h
  obtain ⟨wa, hm1, hba, hb1, hz1⟩ := buf_made w n (by omega)
  obtain ⟨wb, hm2, hbb, hb2, hz2⟩ := buf_made wa n (by omega)
  have hba2 := hba.below hb2 (by omega)
  rw [hz1] at hbb hm2
  have hB : Below w.heap.size w wb := hb1.trans (hb2.mono (by omega))
  go_enter Try.func44, Try.ntmps44
  go_wp2
  go_loopw [8] (fun i wr => ∃ (k : Nat) (p q : List Nat), k ≤ l.length ∧ i = .int .i64 k ∧ p.length = n ∧ q.length = n ∧ (∀ x ∈ p, x < 256) ∧ (∀ x ∈ q, x < 256) ∧ Below w.heap.size w wr ∧ w.heap.size + 2 ≤ wr.heap.size ∧ Buf wr w.heap.size p ∧ Buf wr (w.heap.size + 1) q ∧ Hid (parF (List.replicate n 0) (List.replicate n 0) 0 l = parF p q k (l.drop k))) (fun i _ => l.length - (intOf i).toNat)
  case atStart => exact ⟨0, _, _, by omega, rfl, by simp, by simp, zeros_lt, zeros_lt, hB, by omega, hba2, hbb, Lib.hid rfl⟩
  case round =>
    obtain ⟨k, p, q, hk, rfl, hp, hq, bp, bq, hb, hz, Bp, Bq, HK⟩ := hrel
    by_cases hlt : k < l.length
    · obtain ⟨s, hs⟩ : ∃ s, l[k]? = some s := ⟨l[k], List.getElem?_eq_getElem hlt⟩
      obtain ⟨g, rfl, hg, hc⟩ := hA.resolve_left (by rintro rfl; simp at hlt)
      have hsn := hl s (List.mem_of_getElem? hs)
      have pk := (hb.cell (p := ⟨g, k, none⟩) hg).trans (hc k s hs)
      have hsl := bts_len s
      have HS := Lib.hid hs
      have hgl := gpow_lt (m255 (k : Int))
      have P1 := quiet_plus w.heap.size n 1 n p s hp (by omega) (by omega) (by omega) bp
      have P2 := quiet_plus (w.heap.size + 1) n (gpow (m255 (k : Int))) n q s hq (by omega) (by omega) hgl bq
      have l1 := plusN_len (a := p) (f := 1) (b := bts s) (by omega)
      have l2 := plusN_len (a := q) (f := gpow (m255 k)) (b := bts s) (by omega)
      clear hs hc hA
      go_wp2_with (fail)
      refine (P1.out wr (by omega) Bp).mono ?_; rintro e w3 ⟨rfl, k3, c3, s3⟩
      have Bq3 := Bq.chg c3 (by omega) (by omega)
      have hb3 : Below w.heap.size w w3 := hb.trans ⟨c3.os, c3.tape, c3.output, c3.size, fun j hj => c3.block j (by omega) (by omega)⟩
      have pk3 := (c3.block g (by omega) (by omega))
      have pc3 := (World.cell?_of_block (a := ⟨g, k, none⟩) pk3).trans pk
      go_wp2_with (fail)
      have q1 := (show ({ w3 with drawn := w3.drawn + 1 } : World).cell? _ = _ from pc3)
      go_still_tail 7, (by kernel_rfl)
      still_call (still_c (gpow_s k _ (by omega)))
      repeat still_step
      refine wpStill_nil ?_
      go_wp2_with (fail)
      refine (P2.out _ ?_ ?_).mono ?_
      · show _ < w3.heap.size; omega
      · exact Bq3.block rfl
      rintro e w4 ⟨rfl, k4, c4, s4⟩
      have s4' : w4.heap.size = w3.heap.size := s4
      have b4 : ∀ j, j < w3.heap.size → ¬ (w.heap.size + 1 ≤ j ∧ j < w.heap.size + 1 + 1) → w4.heap[j]? = w3.heap[j]? := c4.block
      have Bp4 := k3.block (w' := w4) (b4 w.heap.size (by omega) (by omega))
      have hb4 : Below w.heap.size w w4 := hb3.trans ⟨c4.os, c4.tape, c4.output, c4.size, fun j hj => b4 j (by omega) (by omega)⟩
      clear s4 c4
      go_wp2
      go_roundw
      case rel => exact ⟨k + 1, _, _, by omega, by go_num, by omega, by omega, plusN_lt bp bts_lt, plusN_lt bq bts_lt, hb4, by omega, Bp4, k4, par_next HS.out HK (by omega)⟩
      case measure => simp [intOf]; omega
    · go_wp2
      have HE := par_end (by omega) HK
      rw [HE]
      exact bodyPost_ret (by simp [results, Try.results44, go_sem]; try rfl) rfl ⟨rfl, Bp, Bq, hb, hz⟩
/-- what MakeParity returns -/
def mkR (l : List ByteArray) : ByteArray × ByteArray × Int :=
  if groupB l then (strN (parF (List.replicate (l.headD .empty).size 0) (List.replicate (l.headD .empty).size 0) 0 l).1, strN (parF (List.replicate (l.headD .empty).size 0) (List.replicate (l.headD .empty).size 0) 0 l).2, 0) else (.empty, .empty, 1)
theorem mkR_no {l : List ByteArray} (h : groupB l = false) : mkR l = (.empty, .empty, 1) := by unfold mkR; rw [h]; rfl
theorem mkR_yes {l : List ByteArray} {s : ByteArray} (h : groupB l = true) (hs : l[0]? = some s) : mkR l = (strN (parF (List.replicate s.size 0) (List.replicate s.size 0) 0 l).1, strN (parF (List.replicate s.size 0) (List.replicate s.size 0) 0 l).2, 0) := by
  cases l with
  | nil => cases hs
  | cons a r =>
    obtain rfl : a = s := by simpa using hs
    unfold mkR; rw [h]; rfl
def mkV (l : List ByteArray) : Value := .tuple #[.string (mkR l).1, .string (mkR l).2.1, .int .i64 (mkR l).2.2]
set_option maxHeartbeats 1000000 in
theorem mk_i (l : List ByteArray) (v : Value) (w : World) (h : StrL w v l) (hm : l.length ≤ 1048576) :
    Calls Try.prog 17 #[v] w fun e w' => e = .returned (mkV l) ∧ Below w.heap.size w w' := by
  have hmm : l.length ≤ maxLen := by unfold maxLen; omega
  cases hg : groupB l
  · have HF : Hid (mkV l = .tuple #[.string .empty, .string .empty, .int .i64 1]) := Lib.hid (by unfold mkV; rw [mkR_no hg])
    go_enter Try.func17, Try.ntmps17
    go_wp2_with (go_at_call 39; refine (group_i l _ _ h hmm).mono ?_; rintro e w1 ⟨rfl, hb1⟩)
    rw [HF.out]
    exact bodyPost_ret (by simp [results, Try.results17, go_sem]; try rfl) rfl ⟨rfl, (by repeat (first | exact Below.refl _ _ | refine Below.alloc ?_ (by first | omega | (simp; done) | (simp; omega)) _ | apply Below.drew | apply below_drewN | refine Below.setCell ?_ (by first | omega | (simp; done) | (simp; omega)) _ | refine Below.trans ?_ (Below.mono (by assumption) (by first | omega | (simp; done) | (simp; omega)))))⟩
  · obtain ⟨s, hs, h1, h2, h3, h4, h5⟩ := groupB_size hg
    have HF : Hid (mkV l = .tuple #[.string (strN (parF (List.replicate s.size 0) (List.replicate s.size 0) 0 l).1), .string (strN (parF (List.replicate s.size 0) (List.replicate s.size 0) 0 l).2), .int .i64 0]) := Lib.hid (by unfold mkV; rw [mkR_yes hg hs])
    have H := h
    obtain ⟨A, c, rfl, hA⟩ := h
    obtain ⟨g, rfl, hgl, hc⟩ := hA.resolve_left (by rintro rfl; simp at hs)
    have p0 := hc 0 s hs
    have HH := Lib.hid H
    have H5 := Lib.hid h5
    clear hs hc H h5 hA
    go_enter Try.func17, Try.ntmps17
    go_wp2_with (go_at_call 39; refine (group_i l _ _ HH.out hmm).mono ?_; rintro e w1 ⟨rfl, hb1⟩; have p1 := (hb1.cell (p := ⟨g, 0, none⟩) hgl).trans p0)
    refine (parity_i l s.size _ _ (HH.out.below hb1 (Nat.le_refl _)) hm (fun t ht => .inr (H5.out t ht)) (by omega)).mono ?_; rintro e w2 ⟨rfl, hb2⟩
    have z1 := hb1.size
    go_wp2
    rw [HF.out]
    exact bodyPost_ret (by simp [results, Try.results17, go_sem]; try rfl) rfl ⟨rfl, (by repeat (first | exact Below.refl _ _ | refine Below.alloc ?_ (by first | omega | (simp; done) | (simp; omega)) _ | apply Below.drew | apply below_drewN | refine Below.setCell ?_ (by first | omega | (simp; done) | (simp; omega)) _ | refine Below.trans ?_ (Below.mono (by assumption) (by first | omega | (simp; done) | (simp; omega)))))⟩
set_option maxHeartbeats 1000000 in
theorem mk_s (l : List ByteArray) (v : Value) (w : World) (h : StrL w v l) (hm : l.length ≤ 1048576) :
    Calls Try.prog 15 #[v] w fun e w' => e = .returned (mkV l) ∧ Below w.heap.size w w' := by
  have hmm : l.length ≤ maxLen := by unfold maxLen; omega
  cases hg : groupB l
  · have HF : Hid (mkV l = .tuple #[.string .empty, .string .empty, .int .i64 1]) := Lib.hid (by unfold mkV; rw [mkR_no hg])
    go_enter Try.func15, Try.ntmps15
    go_wp2_with (go_at_call 43; refine (group_s l _ _ h hmm).mono ?_; rintro e w1 ⟨rfl, hb1⟩)
    rw [HF.out]
    exact bodyPost_ret (by simp [results, Try.results15, go_sem]; try rfl) rfl ⟨rfl, hb1.below _⟩
  · obtain ⟨s, hs, h1, h2, h3, h4, h5⟩ := groupB_size hg
    have HF : Hid (mkV l = .tuple #[.string (strN (parF (List.replicate s.size 0) (List.replicate s.size 0) 0 l).1), .string (strN (parF (List.replicate s.size 0) (List.replicate s.size 0) 0 l).2), .int .i64 0]) := Lib.hid (by unfold mkV; rw [mkR_yes hg hs])
    have hpl := (parF_len (n := s.size) (k := 0) (l := l) (p := List.replicate s.size 0) (q := List.replicate s.size 0) (by simp) (by simp) (fun t ht => .inr (h5 t ht)))
    have HP1 := Lib.hid hpl.1
    have HP2 := Lib.hid hpl.2
    have H := h
    obtain ⟨A, c, rfl, hA⟩ := h
    obtain ⟨g, rfl, hgl, hc⟩ := hA.resolve_left (by rintro rfl; simp at hs)
    have p0 := hc 0 s hs
    have HH := Lib.hid H
    have H5 := Lib.hid h5
    clear hs hc H h5 hA hpl
    go_enter Try.func15, Try.ntmps15
    go_wp2_with (go_at_call 43; refine (group_s l _ _ HH.out hmm).mono ?_; rintro e w1 ⟨rfl, hb1⟩; have p1 := (hb1.cell ⟨g, 0, none⟩).trans p0)
    refine (make_s l s.size _ _ (HH.out.below (hb1.below w.heap.size) (Nat.le_refl _)) hm H5.out (by omega) h1).mono ?_; rintro e w2 ⟨rfl, k1, k2, hb2, hz2⟩
    have z1 := hb1.size
    have hbq := hb1.below w.heap.size
    rw [z1] at k1 k2 hz2 hb2 ⊢
    have t1 : ∀ n, (convert 46 9 (.slice (some ⟨w.heap.size, 0, none⟩) s.size s.size)).run Try.prog (w2.drewN n) = .ok (.string (strN (parF (List.replicate s.size 0) (List.replicate s.size 0) 0 l).1)) (w2.drewN n) := fun n => Buf.str (w := w2.drewN n) k1 HP1.out
    have t2 : ∀ n, (convert 46 9 (.slice (some ⟨w.heap.size + 1, 0, none⟩) s.size s.size)).run Try.prog (w2.drewN n) = .ok (.string (strN (parF (List.replicate s.size 0) (List.replicate s.size 0) 0 l).2)) (w2.drewN n) := fun n => Buf.str (w := w2.drewN n) k2 HP2.out
    go_wp2_with (fail)
    go_quiet (fail)
    go_wp2
    rw [HF.out]
    exact bodyPost_ret (by simp [results, Try.results15, go_sem]; try rfl) rfl ⟨rfl, below_drewN (hbq.trans hb2) _⟩
end Go.Proofs.Ytkdadaocbfbndaa
