/- FindDamaged of the reference: the walk. -/
import Derived.Test.YtkdadaocbfbndaaFdI
namespace Go.Proofs.Ytkdadaocbfbndaa
set_option linter.unusedVariables false
open Go.RowKit

theorem plus_zero {ch : List Nat} {n f : Nat} (h : ch.length = n) : plusN (List.replicate n 0) f ch = scN f ch := by
  subst h
  apply List.ext_getElem
  · simp [plusN, scN]
  · intro i h1 h2; simp [plusN, scN]
theorem strN_inj {a b : List Nat} (ha : ∀ x ∈ a, x < 256) (hb : ∀ x ∈ b, x < 256) (h : strN a = strN b) : a = b := by
  rw [← bts_strN ha, ← bts_strN hb, h]
theorem toList_inj {a b : ByteArray} (h : a.toList = b.toList) : a = b := by
  rw [ByteArray.toList_eq, ByteArray.toList_eq] at h
  exact ByteArray.ext (Array.ext' h)
theorem xor_eq0 {a b : Nat} (h : a ^^^ b = 0) : a = b := by
  have e : (a ^^^ b) ^^^ b = 0 ^^^ b := by rw [h]
  rwa [Nat.xor_assoc, Nat.xor_self, Nat.xor_zero, Nat.zero_xor] at e
theorem xor_zero_iff {A P : List Nat} {n : Nat} (hA : A.length = n) (hP : P.length = n) : xorN A P = List.replicate n 0 ↔ A = P := by
  constructor
  · intro h
    apply List.ext_getElem (by omega)
    intro i h1 h2
    have hx : (xorN A P)[i]'(by rw [xorN_len (by omega)]; omega) = (List.replicate n 0)[i]'(by simp; omega) := by simp only [h]
    simp only [xorN, List.getElem_zipWith, List.getElem_replicate] at hx
    exact xor_eq0 hx
  · rintro rfl
    apply List.ext_getElem (by rw [xorN_len (by omega)]; simp; omega)
    intro i h1 h2
    simp [xorN]
theorem zero_test {A : List Nat} {p : ByteArray} {n : Nat} (hA : A.length = n) (hp : p.size = n) (bA : ∀ x ∈ A, x < 256) : ((strN (xorN A (bts p))).toList == (strN (List.replicate n 0)).toList) = ((strN A).toList == p.toList) := by
  have hb := bts_len p
  rw [Bool.eq_iff_iff, beq_iff_eq, beq_iff_eq]
  constructor
  · intro h
    have h1 := (xor_zero_iff hA (by omega)).1 (strN_inj (xorN_lt bA bts_lt) zeros_lt (toList_inj h))
    rw [h1, strN_bts]
  · intro h
    have h1 := toList_inj h
    have h2 : A = bts p := by rw [← bts_strN bA, h1]
    rw [(xor_zero_iff hA (by omega)).2 h2]
set_option maxRecDepth 20000 in
set_option maxHeartbeats 2000000 in
theorem fd_s (l : List ByteArray) (p q : ByteArray) (v : Value) (w : World) (h : StrL w v l) (hm : l.length ≤ 1048576) (hp : p.size ≤ 1048576) (hq : q.size ≤ 1048576) :
    Calls Try.prog 21 #[v, .string p, .string q] w fun e w' => e = .returned (fdV l p q) ∧ Below w.heap.size w w' := by
  have hmm : l.length ≤ maxLen := by unfold maxLen; omega
  cases hg : groupB l
  · have HF : Hid (fdV l p q = .tuple #[.int .i64 0, .int .i64 1]) := Lib.hid (by unfold fdV fdR ckOk; rw [hg]; rfl)
    go_enter Try.func21, Try.ntmps21
    go_wp2_with (go_at_call 43; refine (group_s l _ _ h hmm).mono ?_; rintro e w1 ⟨rfl, hb1⟩)
    rw [HF.out]; exact bodyPost_ret (by simp [results, Try.results21, go_sem]; try rfl) rfl ⟨rfl, hb1.below _⟩
  · obtain ⟨s, hs, h1, h2, h3, h4, h5⟩ := groupB_size hg
    have HO := ckOk_head (p := p) (q := q) hg hs
    have HM := mkR_yes hg hs
    have hpl := (parF_len (n := s.size) (k := 0) (l := l) (p := List.replicate s.size 0) (q := List.replicate s.size 0) (by simp) (by simp) (fun t ht => .inr (h5 t ht)))
    have hpb := (parF_lt (k := 0) (l := l) (p := List.replicate s.size 0) (q := List.replicate s.size 0) zeros_lt zeros_lt)
    have HH := Lib.hid h
    obtain ⟨A0, c, rfl, hA⟩ := h
    obtain ⟨g, rfl, hgl, hc⟩ := hA.resolve_left (by rintro rfl; simp at hs)
    have p0 := hc 0 s hs
    have H5 := Lib.hid h5
    clear hs hc h5 hA
    by_cases hps : p.size = s.size
    · by_cases hqs : q.size = s.size
      · have hok : ckOk l p q = true := by rw [HO, decide_eq_true hps, decide_eq_true hqs]; rfl
        have HFF : fdR l p q = if ((mkR l).1.toList == p.toList) then (if ((mkR l).2.1.toList == q.toList) then (-1, 0) else (0, 6)) else if ((mkR l).2.1.toList == q.toList) then (0, 6) else fdL (xorN (bts (mkR l).1) (bts p)) (strN (xorN (bts (mkR l).2.1) (bts q))) 0 l.length := by unfold fdR; rw [hok]; rfl
        rw [HM] at HFF
        simp only [] at HFF
        rw [bts_strN hpb.1, bts_strN hpb.2] at HFF
        rw [← hps] at HFF hpl hpb HM
        have HP := fun w h => make_s l p.size (.slice (some ⟨g, 0, none⟩) l.length c) w h hm (fun t ht => (H5.out t ht).trans hps.symm) hp (by omega)
        have d1 : ((p.size : Int) != (s.size : Int)) = false := by simp [hps]
        have d2 : ((q.size : Int) != (p.size : Int)) = false := by simp [hqs, hps]
        have hqp : q.size = p.size := by omega
        generalize (parF (List.replicate p.size 0) (List.replicate p.size 0) 0 l).1 = A at *
        generalize (parF (List.replicate p.size 0) (List.replicate p.size 0) 0 l).2 = C at *
        have lp := bts_len p
        have lq := bts_len q
        have P1 := quiet_plus w.heap.size p.size 1 p.size A p hpl.1 (by omega) (by omega) (by omega) hpb.1
        have P2 := quiet_plus (w.heap.size + 1) p.size 1 p.size C q hpl.2 (by omega) (by omega) (by omega) hpb.2
        rw [plus1] at P1 P2
        have hz1 := zero_test hpl.1 rfl hpb.1
        have hz2 := zero_test (p := q) hpl.2 hqp hpb.2
        rw [← hz1, ← hz2] at HFF
        clear hz1 hz2 HM HO
        have hcl : (xorN A (bts p)).length = p.size := by rw [xorN_len (by omega)]; exact hpl.1
        have hdl : (xorN C (bts q)).length = p.size := by rw [xorN_len (by omega)]; exact hpl.2
        have hcb : ∀ x ∈ xorN A (bts p), x < 256 := xorN_lt hpb.1 bts_lt
        generalize xorN A (bts p) = ch at *
        generalize xorN C (bts q) = dh at *
        have P3 : ∀ gc k : Nat, Hid (∀ w : World, gc < w.heap.size → Buf w gc (List.replicate p.size 0) → Calls Try.prog 37 #[.slice (some ⟨gc, 0, none⟩) p.size p.size, .int .i64 (gpow (m255 (k : Int))), .string (strN ch)] w fun e w' => e = .returned (.tuple #[]) ∧ Buf w' gc (scN (gpow (m255 (k : Int))) ch) ∧ Chg gc (gc + 1) w w' ∧ w'.heap.size = w.heap.size) := fun gc k => by
          have hh := quiet_plus gc p.size (gpow (m255 (k : Int))) p.size (List.replicate p.size 0) (strN ch) (by simp) (by rw [strN_size]; simp; omega) (by rw [strN_size]; omega) (gpow_lt _) zeros_lt
          rw [bts_strN hcb, plus_zero hcl] at hh
          exact hh
        have HQ := Lib.hid HP
        have hA := hpl.1
        have hC := hpl.2
        clear HP hpl hpb hcb lp lq
        cases hx : ((strN ch).toList == (strN (List.replicate p.size 0)).toList)
        · cases hy : ((strN dh).toList == (strN (List.replicate p.size 0)).toList)
          · have HF : Hid (fdR l p q = fdL ch (strN dh) 0 l.length) := Lib.hid (by rw [HFF, hx, hy]; rfl)
            clear HFF hok hps hqs hqp
            go_enter Try.func21, Try.ntmps21
            go_wp2_with (go_at_call 43; refine (group_s l _ _ HH.out hmm).mono ?_; rintro e w1 ⟨rfl, hb1⟩; have p1 := (hb1.cell ⟨g, 0, none⟩).trans p0; have z1 := hb1.size; have B1 := hb1.below w.heap.size)
            refine (HQ.out _ (HH.out.below B1 (Nat.le_refl _))).mono ?_; rintro e w2 ⟨rfl, k1, k2, hb2, hs2⟩
            rw [z1] at k1 k2 hb2 hs2 ⊢
            go_wp2_with (fail)
            refine (P1.out w2 (by omega) k1).mono ?_; rintro e w3 ⟨rfl, k3, c3, s3⟩
            have Bq3 := k2.chg c3 (by omega) (by omega)
            go_wp2_with (fail)
            refine (P2.out w3 (by omega) Bq3).mono ?_; rintro e w4 ⟨rfl, k4, c4, s4⟩
            have ka4 := k3.chg c4 (by omega) (by omega)
            have hb4 : Below w.heap.size w w4 := ((B1.trans hb2).trans ⟨c3.os, c3.tape, c3.output, c3.size, fun j hj => c3.block j (by omega) (by omega)⟩).trans ⟨c4.os, c4.tape, c4.output, c4.size, fun j hj => c4.block j (by omega) (by omega)⟩
            obtain ⟨w5, hm5, hbz, hb5, hz5⟩ := buf_made w4 p.size (by omega)
            have ka5 := ka4.below hb5 (by omega)
            have kb5 := k4.below hb5 (by omega)
            have hB5 : Below w.heap.size w w5 := hb4.trans (hb5.mono (by omega))
            have t1 := ka5.str (n := p.size) (c := p.size) hcl
            have t2 := kb5.str (n := p.size) (c := p.size) hdl
            have t3 := hbz.str (n := p.size) (c := p.size) (by simp)
            rw [s4, s3] at t3 hm5 hz5
            clear c3 c4 s3 s4
            go_wp2
            go_loopw [11] (fun i wr => ∃ k : Nat, k ≤ l.length ∧ i = .int .i64 k ∧ Below w.heap.size w wr ∧ w.heap.size + 2 ≤ wr.heap.size ∧ Buf wr w.heap.size ch ∧ Buf wr (w.heap.size + 1) dh ∧ Hid (fdL ch (strN dh) 0 l.length = fdL ch (strN dh) k (l.length - k))) (fun i _ => l.length - (intOf i).toNat)
            case atStart => exact ⟨0, by omega, rfl, hB5, by omega, ka5, kb5, Lib.hid rfl⟩
            case round =>
              clear t1 t2 t3 hm5
              obtain ⟨k, hk, rfl, hb, hsz, Ka, Kb, HL⟩ := hrel
              by_cases hlt : k < l.length
              · obtain ⟨w6, hm6, hbc, hb6, hz6⟩ := buf_made wr p.size (by omega)
                have ka6 := Ka.below hb6 (by omega)
                have kb6 := Kb.below hb6 (by omega)
                have hB6 : Below w.heap.size w w6 := hb.trans (hb6.mono (by omega))
                go_wp2_with (fail)
                have q1 : (convert 46 9 (.slice (some ⟨w.heap.size, 0, none⟩) p.size p.size)).run Try.prog w6.drew = .ok (.string (strN ch)) w6.drew := Buf.str (w := w6.drew) (ka6.block rfl) hcl
                go_still_tail 5, (by kernel_rfl)
                still_call (still_c (gpow_s k _ (by omega)))
                repeat still_step
                refine wpStill_nil ?_
                go_wp2_with (fail)
                refine ((P3 wr.heap.size k).out _ ?_ ?_).mono ?_
                · show _ < w6.heap.size; omega
                · exact hbc.block rfl
                rintro e w7 ⟨rfl, k7, c7, s7⟩
                have s7' : w7.heap.size = w6.heap.size := s7
                have b7 : ∀ j, j < w6.heap.size → ¬ (wr.heap.size ≤ j ∧ j < wr.heap.size + 1) → w7.heap[j]? = w6.heap[j]? := c7.block
                have ka7 := ka6.block (w' := w7) (b7 _ (by omega) (by omega))
                have kb7 := kb6.block (w' := w7) (b7 _ (by omega) (by omega))
                have hB7 : Below w.heap.size w w7 := hB6.trans ⟨c7.os, c7.tape, c7.output, c7.size, fun j hj => b7 j (by omega) (by omega)⟩
                have t4 := k7.str (n := p.size) (c := p.size) (by rw [scN_len]; exact hcl)
                have t5 := kb7.str (n := p.size) (c := p.size) hdl
                clear c7 s7 q1
                cases he : ((strN (scN (gpow (m255 k)) ch)).toList == (strN dh).toList)
                · have HN := fd_no hlt HL he
                  go_wp2
                  go_roundw
                  case rel => exact ⟨k + 1, by omega, by go_num, hB7, by omega, ka7, kb7, HN⟩
                  case measure => simp [intOf]; omega
                · have HF2 : Hid (fdV l p q = .tuple #[.int .i64 k, .int .i64 0]) := Lib.hid (by unfold fdV; rw [HF.out, fd_yes hlt HL he])
                  go_wp2
                  rw [HF2.out]; exact bodyPost_ret (by simp [results, Try.results21, go_sem]; try rfl) rfl ⟨rfl, hB7⟩
              · have HF2 : Hid (fdV l p q = .tuple #[.int .i64 0, .int .i64 10]) := Lib.hid (by unfold fdV; rw [HF.out, fd_end (by omega) HL])
                go_wp2
                rw [HF2.out]; exact bodyPost_ret (by simp [results, Try.results21, go_sem]; try rfl) rfl ⟨rfl, hb⟩
          · have HF : Hid (fdV l p q = .tuple #[.int .i64 0, .int .i64 6]) := Lib.hid (by unfold fdV; rw [HFF, hx, hy]; rfl)
            clear HFF hok hps hqs hqp
            go_enter Try.func21, Try.ntmps21
            go_wp2_with (go_at_call 43; refine (group_s l _ _ HH.out hmm).mono ?_; rintro e w1 ⟨rfl, hb1⟩; have p1 := (hb1.cell ⟨g, 0, none⟩).trans p0; have z1 := hb1.size; have B1 := hb1.below w.heap.size)
            refine (HQ.out _ (HH.out.below B1 (Nat.le_refl _))).mono ?_; rintro e w2 ⟨rfl, k1, k2, hb2, hs2⟩
            rw [z1] at k1 k2 hb2 hs2 ⊢
            go_wp2_with (fail)
            refine (P1.out w2 (by omega) k1).mono ?_; rintro e w3 ⟨rfl, k3, c3, s3⟩
            have Bq3 := k2.chg c3 (by omega) (by omega)
            go_wp2_with (fail)
            refine (P2.out w3 (by omega) Bq3).mono ?_; rintro e w4 ⟨rfl, k4, c4, s4⟩
            have ka4 := k3.chg c4 (by omega) (by omega)
            have hb4 : Below w.heap.size w w4 := ((B1.trans hb2).trans ⟨c3.os, c3.tape, c3.output, c3.size, fun j hj => c3.block j (by omega) (by omega)⟩).trans ⟨c4.os, c4.tape, c4.output, c4.size, fun j hj => c4.block j (by omega) (by omega)⟩
            obtain ⟨w5, hm5, hbz, hb5, hz5⟩ := buf_made w4 p.size (by omega)
            have ka5 := ka4.below hb5 (by omega)
            have kb5 := k4.below hb5 (by omega)
            have hB5 : Below w.heap.size w w5 := hb4.trans (hb5.mono (by omega))
            have t1 := ka5.str (n := p.size) (c := p.size) hcl
            have t2 := kb5.str (n := p.size) (c := p.size) hdl
            have t3 := hbz.str (n := p.size) (c := p.size) (by simp)
            rw [s4, s3] at t3 hm5 hz5
            clear c3 c4 s3 s4
            go_wp2
            rw [HF.out]; exact bodyPost_ret (by simp [results, Try.results21, go_sem]; try rfl) rfl ⟨rfl, hB5⟩
        · cases hy : ((strN dh).toList == (strN (List.replicate p.size 0)).toList)
          · have HF : Hid (fdV l p q = .tuple #[.int .i64 0, .int .i64 6]) := Lib.hid (by unfold fdV; rw [HFF, hx, hy]; rfl)
            clear HFF hok hps hqs hqp
            go_enter Try.func21, Try.ntmps21
            go_wp2_with (go_at_call 43; refine (group_s l _ _ HH.out hmm).mono ?_; rintro e w1 ⟨rfl, hb1⟩; have p1 := (hb1.cell ⟨g, 0, none⟩).trans p0; have z1 := hb1.size; have B1 := hb1.below w.heap.size)
            refine (HQ.out _ (HH.out.below B1 (Nat.le_refl _))).mono ?_; rintro e w2 ⟨rfl, k1, k2, hb2, hs2⟩
            rw [z1] at k1 k2 hb2 hs2 ⊢
            go_wp2_with (fail)
            refine (P1.out w2 (by omega) k1).mono ?_; rintro e w3 ⟨rfl, k3, c3, s3⟩
            have Bq3 := k2.chg c3 (by omega) (by omega)
            go_wp2_with (fail)
            refine (P2.out w3 (by omega) Bq3).mono ?_; rintro e w4 ⟨rfl, k4, c4, s4⟩
            have ka4 := k3.chg c4 (by omega) (by omega)
            have hb4 : Below w.heap.size w w4 := ((B1.trans hb2).trans ⟨c3.os, c3.tape, c3.output, c3.size, fun j hj => c3.block j (by omega) (by omega)⟩).trans ⟨c4.os, c4.tape, c4.output, c4.size, fun j hj => c4.block j (by omega) (by omega)⟩
            obtain ⟨w5, hm5, hbz, hb5, hz5⟩ := buf_made w4 p.size (by omega)
            have ka5 := ka4.below hb5 (by omega)
            have kb5 := k4.below hb5 (by omega)
            have hB5 : Below w.heap.size w w5 := hb4.trans (hb5.mono (by omega))
            have t1 := ka5.str (n := p.size) (c := p.size) hcl
            have t2 := kb5.str (n := p.size) (c := p.size) hdl
            have t3 := hbz.str (n := p.size) (c := p.size) (by simp)
            rw [s4, s3] at t3 hm5 hz5
            clear c3 c4 s3 s4
            go_wp2
            rw [HF.out]; exact bodyPost_ret (by simp [results, Try.results21, go_sem]; try rfl) rfl ⟨rfl, hB5⟩
          · have HF : Hid (fdV l p q = .tuple #[.int .i64 (-1), .int .i64 0]) := Lib.hid (by unfold fdV; rw [HFF, hx, hy]; rfl)
            clear HFF hok hps hqs hqp
            go_enter Try.func21, Try.ntmps21
            go_wp2_with (go_at_call 43; refine (group_s l _ _ HH.out hmm).mono ?_; rintro e w1 ⟨rfl, hb1⟩; have p1 := (hb1.cell ⟨g, 0, none⟩).trans p0; have z1 := hb1.size; have B1 := hb1.below w.heap.size)
            refine (HQ.out _ (HH.out.below B1 (Nat.le_refl _))).mono ?_; rintro e w2 ⟨rfl, k1, k2, hb2, hs2⟩
            rw [z1] at k1 k2 hb2 hs2 ⊢
            go_wp2_with (fail)
            refine (P1.out w2 (by omega) k1).mono ?_; rintro e w3 ⟨rfl, k3, c3, s3⟩
            have Bq3 := k2.chg c3 (by omega) (by omega)
            go_wp2_with (fail)
            refine (P2.out w3 (by omega) Bq3).mono ?_; rintro e w4 ⟨rfl, k4, c4, s4⟩
            have ka4 := k3.chg c4 (by omega) (by omega)
            have hb4 : Below w.heap.size w w4 := ((B1.trans hb2).trans ⟨c3.os, c3.tape, c3.output, c3.size, fun j hj => c3.block j (by omega) (by omega)⟩).trans ⟨c4.os, c4.tape, c4.output, c4.size, fun j hj => c4.block j (by omega) (by omega)⟩
            obtain ⟨w5, hm5, hbz, hb5, hz5⟩ := buf_made w4 p.size (by omega)
            have ka5 := ka4.below hb5 (by omega)
            have kb5 := k4.below hb5 (by omega)
            have hB5 : Below w.heap.size w w5 := hb4.trans (hb5.mono (by omega))
            have t1 := ka5.str (n := p.size) (c := p.size) hcl
            have t2 := kb5.str (n := p.size) (c := p.size) hdl
            have t3 := hbz.str (n := p.size) (c := p.size) (by simp)
            rw [s4, s3] at t3 hm5 hz5
            clear c3 c4 s3 s4
            go_wp2
            rw [HF.out]; exact bodyPost_ret (by simp [results, Try.results21, go_sem]; try rfl) rfl ⟨rfl, hB5⟩
      · have HF : Hid (fdV l p q = .tuple #[.int .i64 0, .int .i64 1]) := Lib.hid (by unfold fdV fdR; rw [HO, decide_eq_false hqs, Bool.and_false]; rfl)
        have d1 : ((p.size : Int) != (s.size : Int)) = false := by simp [hps]
        have d2 : ((q.size : Int) != (p.size : Int)) = true := by simp; omega
        clear HM HO hps hqs
        go_enter Try.func21, Try.ntmps21
        go_wp2_with (go_at_call 43; refine (group_s l _ _ HH.out hmm).mono ?_; rintro e w1 ⟨rfl, hb1⟩; have p1 := (hb1.cell ⟨g, 0, none⟩).trans p0; have z1 := hb1.size; have B1 := hb1.below w.heap.size)
        rw [HF.out]; exact bodyPost_ret (by simp [results, Try.results21, go_sem]; try rfl) rfl ⟨rfl, (by repeat (first | exact Below.refl _ _ | refine Below.alloc ?_ (by first | omega | (simp; done) | (simp; omega)) _ | apply Below.drew | apply below_drewN | refine Below.setCell ?_ (by first | omega | (simp; done) | (simp; omega)) _ | refine Below.trans ?_ (Below.mono (by assumption) (by first | omega | (simp; done) | (simp; omega)))))⟩
    · have HF : Hid (fdV l p q = .tuple #[.int .i64 0, .int .i64 1]) := Lib.hid (by unfold fdV fdR; rw [HO, decide_eq_false hps, Bool.false_and]; rfl)
      have d1 : ((p.size : Int) != (s.size : Int)) = true := by simp; omega
      clear HM HO hps
      go_enter Try.func21, Try.ntmps21
      go_wp2_with (go_at_call 43; refine (group_s l _ _ HH.out hmm).mono ?_; rintro e w1 ⟨rfl, hb1⟩; have p1 := (hb1.cell ⟨g, 0, none⟩).trans p0; have z1 := hb1.size; have B1 := hb1.below w.heap.size)
      rw [HF.out]; exact bodyPost_ret (by simp [results, Try.results21, go_sem]; try rfl) rfl ⟨rfl, (by repeat (first | exact Below.refl _ _ | refine Below.alloc ?_ (by first | omega | (simp; done) | (simp; omega)) _ | apply Below.drew | apply below_drewN | refine Below.setCell ?_ (by first | omega | (simp; done) | (simp; omega)) _ | refine Below.trans ?_ (Below.mono (by assumption) (by first | omega | (simp; done) | (simp; omega)))))⟩
end Go.Proofs.Ytkdadaocbfbndaa
