/- The walk of FnExactMergeDumps. -/
import Derived.Test.YtignjjkldmninaaMdI
import Derived.Test.YtignjjkldmninaaFillH
import Derived.Test.YtignjjkldmninaaSMerge
import Derived.Test.YtignjjkldmninaaVDumpsS
import Derived.Test.YtignjjkldmninaaFillS
import Derived.Test.YtignjjkldmninaaMgS
import Derived.Deep.Cut
/- spec.MergeDumps: the walks. -/
namespace Go.Proofs.Ytignjjkldmninaa
set_option linter.unusedVariables false
open Go.RowKit
set_option maxRecDepth 20000 in
set_option maxHeartbeats 8000000 in
theorem lm_s (B : Nat) (l : List Dsc) (z : Dsc) (v : Value) (w : World) (h : DscOwn B w v l) (hn : l.length ≤ 1048576) (hok : dumpsOk l = true) (hz : l[0]? = some z) :
    Calls Try.prog 99 #[v] w fun e w' => MgR w (mdM l z) e w' := by
  obtain ⟨i0, hi, hz0, hz1, hz2⟩ := info_parts icell_info
  obtain ⟨i1, ji, jz0, jz1, jz2⟩ := info_parts Sec.info
  have HB0 : Below w.heap.size w (w.alloc (.cells #[.int .i64 0, .int .i64 0, .int .i64 0, .int .i64 0, .slice none 0 0, .slice none 0 0, .slice none 0 0] 41)) := Below.alloc (Below.refl _ _) (Nat.le_refl _) _
  have Z0 : Row (w.alloc (.cells #[.int .i64 0, .int .i64 0, .int .i64 0, .int .i64 0, .slice none 0 0, .slice none 0 0, .slice none 0 0] 41)) w.heap.size mzL := Row.alloc w _ _
  have F0 : ∀ o, (w.alloc (.cells #[.int .i64 0, .int .i64 0, .int .i64 0, .int .i64 0, .slice none 0 0, .slice none 0 0, .slice none 0 0] 41)).frozen? ⟨w.heap.size, o, none⟩ = false := alloc_fz
  have zw0 : w.heap.size < (w.alloc (.cells #[.int .i64 0, .int .i64 0, .int .i64 0, .int .i64 0, .slice none 0 0, .slice none 0 0, .slice none 0 0] 41)).heap.size := by simp
  have hzn : z.secs.length ≤ 128 := ok_le (du_mem hok hz (List.mem_of_getElem? hz)).1
  have HSZ := Lib.hid (fun k hk => dumps_size (k := k) hok hz hk)
  have HRES := Lib.hid (fun gm gz P F G vs vf va W (H : MdSt z w gm gz P F G vs vf va W) hP hF hG => MdSt.resM (l := l) H hok hz hP hF hG)
  have HLS := Lib.hid (fun k W (hb : Below w.heap.size w W) hk => col_s B k l v W (h.below hb) hn hk)
  have hl0 : l ≠ [] := by rintro rfl; cases hz
  obtain ⟨A, c, rfl, hA⟩ := h
  obtain ⟨g, rfl, _, hg, hc⟩ := hA.resolve_left hl0
  obtain ⟨bv, ob, cb⟩ := hc 0 z hz
  have hl1 : 1 ≤ l.length := List.length_pos_iff.2 hl0
  have RZ : Row w g (dscL z bv) := fun j u hu => by
    have := cb j u (by simpa [Dsc.ints] using hu)
    simpa using this
  have p4 := RZ 4 _ rfl
  obtain ⟨Ab, cbb, rfl, _⟩ := OwnL.shape ob
  have HL0 := Lib.hid hl0
  have HLK : Hid (Calls Try.prog 82 #[.pointer (some ⟨g, 0, none⟩)] (w.alloc (.cells #[.int .i64 0, .int .i64 0, .int .i64 0, .int .i64 0, .slice none 0 0, .slice none 0 0, .slice none 0 0] 41)) fun e w' => e = .returned (.agg #[.int .i64 z.cyl, .int .i64 z.heads, .int .i64 z.per, .int .i64 z.size, .slice none 0 0]) ∧ Below (w.alloc (.cells #[.int .i64 0, .int .i64 0, .int .i64 0, .int .i64 0, .slice none 0 0, .slice none 0 0, .slice none 0 0] 41)).heap.size (w.alloc (.cells #[.int .i64 0, .int .i64 0, .int .i64 0, .int .i64 0, .slice none 0 0, .slice none 0 0, .slice none 0 0] 41)) w') := Lib.hid (like_s g z _ _ (RZ.below HB0 hg) (by omega))
  clear hok hz hl0 hA hc cb ob RZ
  go_enter Try.func99, Try.ntmps99
  go_wp2_with (fail)
  refine HLK.out.mono ?_; rintro e w2 ⟨rfl, hb2⟩
  have B2 := HB0.trans (hb2.mono HB0.size)
  have z2 : w.heap.size < w2.heap.size := Nat.lt_of_lt_of_le zw0 hb2.size
  have HB3 : Below w2.heap.size w2 (w2.alloc (.cells #[.int .i64 z.cyl, .int .i64 z.heads, .int .i64 z.per, .int .i64 z.size, .slice none 0 0, .slice none 0 0, .slice none 0 0] 41)) := Below.alloc (Below.refl _ _) (Nat.le_refl _) _
  have HS0 : Hid (MdSt z w w2.heap.size w.heap.size (mdS l 0) (mdF l 0) (mdA l 0) (.slice none 0 0) (.slice none 0 0) (.slice none 0 0) (w2.alloc (.cells #[.int .i64 z.cyl, .int .i64 z.heads, .int .i64 z.per, .int .i64 z.size, .slice none 0 0, .slice none 0 0, .slice none 0 0] 41))) := Lib.hid ⟨B2.trans (HB3.mono (by omega)), Row.alloc w2 _ _, alloc_fz, (Z0.below hb2 zw0).below HB3 (by omega), frozen_below (frozen_below F0 hb2 zw0) HB3 (by omega), OwnL.of_nil, OwnL.of_nil, OwnL.of_nil, Dj.nil, Dj.nil, Dj.nil, ⟨by omega, by simp, by omega⟩, ⟨Nat.le_refl _, by simp; omega⟩, ⟨by simp [Value.ownBlock], by simp [Value.ownBlock]⟩, ⟨by simp [Value.ownBlock], by simp [Value.ownBlock]⟩, ⟨by simp [Value.ownBlock], by simp [Value.ownBlock]⟩⟩
  clear HLK hb2 HB0 Z0 F0 HB3 B2 zw0
  go_upto_region 3 with (fail)
  generalize (w2.alloc (.cells #[.int .i64 z.cyl, .int .i64 z.heads, .int .i64 z.per, .int .i64 z.size, .slice none 0 0, .slice none 0 0, .slice none 0 0] 41)) = W2 at *
  generalize w2.heap.size = gm at *
  go_loopw [4] (fun i wr => ∃ (k : Nat) (vs vf va : Value), k ≤ z.secs.length ∧ i = .int .i64 k ∧ Hid (MdSt z w gm w.heap.size (mdS l k) (mdF l k) (mdA l k) vs vf va wr)) (fun i _ => z.secs.length - (intOf i).toNat)
  case atStart => exact ⟨0, _, _, _, by omega, rfl, HS0⟩
  case round =>
    clear HS0
    obtain ⟨k, vs, vf, va, hk, rfl, HS⟩ := hrel
    obtain ⟨As, ns, cs, rfl⟩ := own_slice HS.out.s
    obtain ⟨Af, nf, cf, rfl⟩ := own_slice HS.out.f
    obtain ⟨Ag, ng, cg, rfl⟩ := own_slice HS.out.g
    have q4 := (HS.out.bel.cell (p := ⟨g, 4, none⟩) hg).trans p4
    by_cases hlt : k < z.secs.length
    · obtain ⟨hk1, nn, hnn, hcs⟩ := HSZ.out k hlt
      have HC := Lib.hid (HLS.out k wr HS.out.bel hk1)
      have HM : Hid (∀ (B' : Nat) (v' : Value) (W : World), SecOwn B' W v' (colF k l) → Calls Try.prog 78 #[v'] W fun e w' => e = .returned (.tuple #[.agg #[.string (mgS (colF k l)).1.data, .int .i64 (mgS (colF k l)).1.state], .int .i64 (mgS (colF k l)).2.1, .int .i64 (mgS (colF k l)).2.2]) ∧ Below W.heap.size W w') := Lib.hid (fun B' v' W o => lsec_s B' (colF k l) v' W o (by rw [col_len]; exact hn) (by intro e; have := congrArg List.length e; rw [col_len] at this; simp at this; exact HL0.out this) nn hcs (by omega))
      have hS1 := Lib.hid (mdS_succ l k)
      have hF1 := Lib.hid (mdF_succ l k)
      have hG1 := Lib.hid (mdA_succ l k)
      have hsl : (mdS l k).length + 1 ≤ 16777216 := by rw [mdS_len]; omega
      have hfl : (mdF l k).length + 1 ≤ 16777216 := by rw [mdF_len]; omega
      have hgl : (mdA l k).length + 1 ≤ 16777216 := by rw [mdA_len]; omega
      clear hk1 hcs
      go_wp2_with (fail)
      refine HC.out.mono ?_; rintro e w4 ⟨v4, rfl, o4, hb4⟩
      have HS4 := Lib.hid (HS.out.below hb4)
      obtain ⟨A4, c4, rfl, _⟩ := OwnL.shape o4
      have HM4 := Lib.hid (HM.out _ _ _ o4)
      rw [col_len] at HM4
      clear HC HS HM hb4
      go_wp2_with (fail)
      have HM5 := HM4.out
      rw [col_len]
      refine HM5.mono ?_; rintro e w5 ⟨rfl, hb5⟩
      have HS5 := Lib.hid (HS4.out.below hb5)
      clear HM4 HM5 HS4 hb5 o4 q4
      generalize mgS (colF k l) = y at *
      have HS6 := Lib.hid (HS5.out.alloc (.cells #[.string y.1.data, .int .i64 y.1.state] 48))
      go_upto_region 6 with (fail)
      have c0 : (w5.alloc (.cells #[.string y.1.data, .int .i64 y.1.state] 48)).cell? ⟨w5.heap.size, 0, none⟩ = some (.string y.1.data) := by simp
      have c1 : (w5.alloc (.cells #[.string y.1.data, .int .i64 y.1.state] 48)).cell? ⟨w5.heap.size, 1, none⟩ = some (.int .i64 y.1.state) := by simp
      generalize (w5.alloc (.cells #[.string y.1.data, .int .i64 y.1.state] 48)) = W6 at *
      have k4 := HS6.out.row 4 _ rfl
      have hb6 : w.heap.size ≤ (W6.alloc (.cells #[.string y.1.data, .int .i64 y.1.state] 48)).heap.size := (HS6.out.alloc _).bel.size
      go_upto_region 7 with (at_builtin; refine wpList_app1at Sec.cells 2 Sec.len _ rfl _ _ _ rfl w.heap.size 48 i1 (.agg #[.string .empty, .int .i64 0]) 24 Try.underlying37 ji jz0 jz1 jz2 rfl (by decide) _ (mdS l k) rfl (HS6.out.alloc _).s _ 1 y.1 rfl ?_ (sec_one y.1) hsl (by decide) hb6 ?_; (· intro j u hu; match j, hu with | 0, hu => (simp [Sec.cells] at hu; subst hu; simp) | 1, hu => (simp [Sec.cells] at hu; subst hu; simp) | j + 2, hu => simp [Sec.cells] at hu); intro v7 w7 how7 hg7 hbl7; obtain ⟨A7, n7, c7, rfl⟩ := own_slice how7; have HS7 := Lib.hid ((HS6.out.alloc (.cells #[.string y.1.data, .int .i64 y.1.state] 48)).appS how7 hg7 hbl7); have t3 := (HS6.out.alloc (.cells #[.string y.1.data, .int .i64 y.1.state] 48)).row.grown hg7 (HS6.out.alloc (.cells #[.string y.1.data, .int .i64 y.1.state] 48)).gm1.2.1 HS6.out.ns.1 4 _ rfl; have t4 := frozen_grown (HS6.out.alloc (.cells #[.string y.1.data, .int .i64 y.1.state] 48)).fr hg7 (HS6.out.alloc (.cells #[.string y.1.data, .int .i64 y.1.state] 48)).gm1.2.1 HS6.out.ns.1 4; clear how7 hg7 hbl7)
      clear k4 t3 t4 HS6 hb6 c0 c1 HS5
      generalize w7.setCell ⟨gm, 4, none⟩ (.slice A7 n7 c7) = W7 at *
      have k5 := HS7.out.row 5 _ rfl
      have hb7 : w.heap.size ≤ (W7.alloc (.cells #[.int .i64 y.2.1] 2)).heap.size := (HS7.out.alloc _).bel.size
      go_upto_region 8 with (at_builtin; refine wpList_app1at icell 1 icell_len _ rfl _ _ _ rfl w.heap.size 2 i0 (.int .i64 0) 8 Try.underlying32 hi hz0 hz1 hz2 rfl (by decide) _ (mdF l k) rfl (HS7.out.alloc _).f _ 1 y.2.1 rfl ?_ (by simp [icell, Value.oneCell']) hfl (by decide) hb7 ?_; (· intro j u hu; cases j with | zero => (simp [icell] at hu; subst hu; simp) | succ j => simp [icell] at hu); intro v8 w8 how8 hg8 hbl8; obtain ⟨A8, n8, c8, rfl⟩ := own_slice how8; have HS8 := Lib.hid ((HS7.out.alloc (.cells #[.int .i64 y.2.1] 2)).appF how8 hg8 hbl8); have t5 := (HS7.out.alloc (.cells #[.int .i64 y.2.1] 2)).row.grown hg8 (HS7.out.alloc (.cells #[.int .i64 y.2.1] 2)).gm1.2.1 HS7.out.nf.1 5 _ rfl; have t6 := frozen_grown (HS7.out.alloc (.cells #[.int .i64 y.2.1] 2)).fr hg8 (HS7.out.alloc (.cells #[.int .i64 y.2.1] 2)).gm1.2.1 HS7.out.nf.1 5; clear how8 hg8 hbl8)
      clear k5 t5 t6 HS7 hb7
      generalize w8.setCell ⟨gm, 5, none⟩ (.slice A8 n8 c8) = W8 at *
      have k6 := HS8.out.row 6 _ rfl
      have hb8 : w.heap.size ≤ (W8.alloc (.cells #[.int .i64 y.2.2] 2)).heap.size := (HS8.out.alloc _).bel.size
      go_wp2_with (at_builtin; refine wpList_app1at icell 1 icell_len _ rfl _ _ _ rfl w.heap.size 2 i0 (.int .i64 0) 8 Try.underlying32 hi hz0 hz1 hz2 rfl (by decide) _ (mdA l k) rfl (HS8.out.alloc _).g _ 1 y.2.2 rfl ?_ (by simp [icell, Value.oneCell']) hgl (by decide) hb8 ?_; (· intro j u hu; cases j with | zero => (simp [icell] at hu; subst hu; simp) | succ j => simp [icell] at hu); intro v9 w9 how9 hg9 hbl9; obtain ⟨A9, n9, c9, rfl⟩ := own_slice how9; have HS9 := Lib.hid ((HS8.out.alloc (.cells #[.int .i64 y.2.2] 2)).appG how9 hg9 hbl9); have t7 := (HS8.out.alloc (.cells #[.int .i64 y.2.2] 2)).row.grown hg9 (HS8.out.alloc (.cells #[.int .i64 y.2.2] 2)).gm1.2.1 HS8.out.ng.1 6 _ rfl; have t8 := frozen_grown (HS8.out.alloc (.cells #[.int .i64 y.2.2] 2)).fr hg9 (HS8.out.alloc (.cells #[.int .i64 y.2.2] 2)).gm1.2.1 HS8.out.ng.1 6; clear how9 hg9 hbl9)
      go_roundw
      case rel => exact ⟨k + 1, _, _, _, by omega, by go_num, by rw [hS1.out, hF1.out, hG1.out]; exact HS9⟩
      case measure => simp [intOf]; omega
    · obtain rfl : k = z.secs.length := by omega
      have HR := Lib.hid (HRES.out _ _ _ _ _ _ _ _ _ HS.out rfl rfl rfl)
      have x0 := HS.out.row 0 _ rfl
      have x1 := HS.out.row 1 _ rfl
      have x2 := HS.out.row 2 _ rfl
      have x3 := HS.out.row 3 _ rfl
      have x4 := HS.out.row 4 _ rfl
      have x5 := HS.out.row 5 _ rfl
      have x6 := HS.out.row 6 _ rfl
      have r0 := HS.out.zr 0 _ rfl
      have r1 := HS.out.zr 1 _ rfl
      have r2 := HS.out.zr 2 _ rfl
      have r3 := HS.out.zr 3 _ rfl
      have r4 := HS.out.zr 4 _ rfl
      have r5 := HS.out.zr 5 _ rfl
      have r6 := HS.out.zr 6 _ rfl
      have HZ2 := Lib.hid (HS.out.zr.setL (mrL z (.slice As ns cs) (.slice Af nf cf) (.slice Ag ng cg)) (by simp [mzL]))
      have fz := HS.out.fz
      go_wp2
      clear x0 x1 x2 x3 x4 x5 x6 r0 r1 r2 r3 r4 r5 r6 fz HS
      show bodyPost _ _ _ _ _ (setL wr w.heap.size 0 (mrL z (.slice As ns cs) (.slice Af nf cf) (.slice Ag ng cg)))
      generalize (setL wr w.heap.size 0 (mrL z (.slice As ns cs) (.slice Af nf cf) (.slice Ag ng cg))) = W at *
      have s0 := HZ2.out 0 _ rfl
      have s1 := HZ2.out 1 _ rfl
      have s2 := HZ2.out 2 _ rfl
      have s3 := HZ2.out 3 _ rfl
      have s4 := HZ2.out 4 _ rfl
      have s5 := HZ2.out 5 _ rfl
      have s6 := HZ2.out 6 _ rfl
      exact bodyPost_ret (v := mrgV (mdM l z) (.slice As ns cs) (.slice Af nf cf) (.slice Ag ng cg)) (by simp [results, Try.results99, go_sem, s0, s1, s2, s3, s4, s5, s6, mdM]; try done) rfl HR.out
set_option maxRecDepth 20000 in
set_option maxHeartbeats 8000000 in
theorem md_s (B : Nat) (l : List Dsc) (v : Value) (w : World) (h : DscOwn B w v l) (hn : l.length ≤ 1048576) (hb2 : ∀ d ∈ l, d.secs.length ≤ 1048576) (hm : ∀ d ∈ l, ∀ s ∈ d.secs, s.data.size ≤ maxLen) :
    Calls Try.prog 53 #[v] w fun e w' => MdR w (mdE l) e w' := by
  have HB0 : Below w.heap.size w (w.alloc (.cells #[.int .i64 0, .int .i64 0, .int .i64 0, .int .i64 0, .slice none 0 0, .slice none 0 0, .slice none 0 0] 41)) := Below.alloc (Below.refl _ _) (Nat.le_refl _) _
  have Z0 : Row (w.alloc (.cells #[.int .i64 0, .int .i64 0, .int .i64 0, .int .i64 0, .slice none 0 0, .slice none 0 0, .slice none 0 0] 41)) w.heap.size mzL := Row.alloc w _ _
  have F0 : ∀ o, (w.alloc (.cells #[.int .i64 0, .int .i64 0, .int .i64 0, .int .i64 0, .slice none 0 0, .slice none 0 0, .slice none 0 0] 41)).frozen? ⟨w.heap.size, o, none⟩ = false := alloc_fz
  have zw0 : w.heap.size < (w.alloc (.cells #[.int .i64 0, .int .i64 0, .int .i64 0, .int .i64 0, .slice none 0 0, .slice none 0 0, .slice none 0 0] 41)).heap.size := by simp
  have HV := Lib.hid (dumpsL_s B l v _ (h.below HB0) hn hb2 hm)
  cases hok : dumpsOk l
  · rw [hok] at HV
    have HF := Lib.hid hok
    obtain ⟨A, c, rfl, _⟩ := h
    clear hok
    go_enter Try.func53, Try.ntmps53
    go_wp2_with (fail)
    refine HV.out.mono ?_; rintro e w1 ⟨rfl, hb1⟩
    have Z1 := Z0.below hb1 zw0
    have F1 := frozen_below F0 hb1 zw0
    have r0 := Z1 0 _ rfl
    have r1 := Z1 1 _ rfl
    have r2 := Z1 2 _ rfl
    have r3 := Z1 3 _ rfl
    have r4 := Z1 4 _ rfl
    have r5 := Z1 5 _ rfl
    have r6 := Z1 6 _ rfl
    have B1 := HB0.trans (hb1.mono HB0.size)
    clear HV hb1 HB0 Z0 F0
    go_wp2
    have Z2 := Z1.setL mzL (by simp [mzL])
    have B2 : Below w.heap.size w (setL w1 w.heap.size 0 mzL) := setL_below (Nat.le_refl _) mzL B1
    show bodyPost _ _ _ _ _ (setL w1 w.heap.size 0 mzL)
    clear r0 r1 r2 r3 r4 r5 r6 Z1 F1
    generalize (setL w1 w.heap.size 0 mzL) = W at *
    have s0 := Z2 0 _ rfl
    have s1 := Z2 1 _ rfl
    have s2 := Z2 2 _ rfl
    have s3 := Z2 3 _ rfl
    have s4 := Z2 4 _ rfl
    have s5 := Z2 5 _ rfl
    have s6 := Z2 6 _ rfl
    exact bodyPost_ret (v := .tuple #[mrgV mrgZ0 (.slice none 0 0) (.slice none 0 0) (.slice none 0 0), .int .i64 1]) (by simp [results, Try.results53, go_sem, s0, s1, s2, s3, s4, s5, s6, mrgZ0]; try done) rfl (md_zero (gz := 0) (v := .slice none 0 0) HF.out B2)
  · rw [hok] at HV
    obtain ⟨z, hz⟩ := du_first hok
    have HLM := Lib.hid (fun W (hb : Below w.heap.size w W) => lm_s B l z v W (h.below hb) hn hok hz)
    have HE := Lib.hid (mdE_yes hok hz)
    obtain ⟨A, c, rfl, _⟩ := h
    clear hok hz
    go_enter Try.func53, Try.ntmps53
    go_wp2_with (fail)
    refine HV.out.mono ?_; rintro e w1 ⟨rfl, hb1⟩
    have Z1 := Z0.below hb1 zw0
    have F1 := frozen_below F0 hb1 zw0
    have B1 := HB0.trans (hb1.mono HB0.size)
    have zw1 : w.heap.size < w1.heap.size := Nat.lt_of_lt_of_le zw0 hb1.size
    clear HV hb1 HB0 Z0 F0 zw0
    go_wp2_with (fail)
    refine (HLM.out w1 B1).mono ?_; rintro e w2 ⟨A0, c0, A1, c1, A2, c2, rfl, ⟨o1, o2, o3⟩, hdj, hb2⟩
    have Z2 := Z1.below hb2 zw1
    have F2 := frozen_below F1 hb2 zw1
    have B2 := B1.trans (hb2.mono (by omega))
    have r0 := Z2 0 _ rfl
    have r1 := Z2 1 _ rfl
    have r2 := Z2 2 _ rfl
    have r3 := Z2 3 _ rfl
    have r4 := Z2 4 _ rfl
    have r5 := Z2 5 _ rfl
    have r6 := Z2 6 _ rfl
    have HO := Lib.hid (And.intro o1 (And.intro o2 o3))
    have HDJ := Lib.hid hdj
    clear Z1 F1 hb2 B1 HLM o1 o2 o3 hdj
    go_wp2
    generalize (mdM l z) = m at *
    let us := mrL m.d (.slice A0 m.d.secs.length c0) (.slice A1 m.fr.length c1) (.slice A2 m.ag.length c2)
    have Z3 := Z2.setL us (by simp [us, mzL])
    have B3 : Below w.heap.size w (setL w2 w.heap.size 0 us) := setL_below (Nat.le_refl _) us B2
    have O1 := OwnL.base (setL_far (g := w.heap.size) (o := 0) zw1 us HO.out.1) (Nat.le_of_lt zw1)
    have O2 := OwnL.base (setL_far (g := w.heap.size) (o := 0) zw1 us HO.out.2.1) (Nat.le_of_lt zw1)
    have O3 := OwnL.base (setL_far (g := w.heap.size) (o := 0) zw1 us HO.out.2.2) (Nat.le_of_lt zw1)
    show bodyPost _ _ _ _ _ (setL w2 w.heap.size 0 us)
    clear r0 r1 r2 r3 r4 r5 r6 Z2 F2 HO B2
    generalize (setL w2 w.heap.size 0 us) = W at *
    have s0 := Z3 0 _ rfl
    have s1 := Z3 1 _ rfl
    have s2 := Z3 2 _ rfl
    have s3 := Z3 3 _ rfl
    have s4 := Z3 4 _ rfl
    have s5 := Z3 5 _ rfl
    have s6 := Z3 6 _ rfl
    refine bodyPost_ret (v := .tuple #[mrgV m (.slice A0 m.d.secs.length c0) (.slice A1 m.fr.length c1) (.slice A2 m.ag.length c2), .int .i64 0]) (by simp [results, Try.results53, go_sem, s0, s1, s2, s3, s4, s5, s6]; try done) rfl ?_
    rw [HE.out]
    exact ⟨A0, c0, A1, c1, A2, c2, rfl, ⟨O1, O2, O3⟩, HDJ.out, B3⟩
end Go.Proofs.Ytignjjkldmninaa
/- The laws' own helpers over merges: marks. -/
namespace Go.Proofs.Ytignjjkldmninaa
open Go.RowKit
/-- a merge between blocks B and E, its lists in different blocks -/
structure MrgE (B E : Nat) (w : World) (m : Mrg) (x y z : Value) : Prop where
  o : MrgOwn B w m x y z
  lx : ∀ g, x.ownBlock = some g → g < E
  ly : ∀ g, y.ownBlock = some g → g < E
  lz : ∀ g, z.ownBlock = some g → g < E
  xy : Dj x y
  xz : Dj x z
  yz : Dj y z
theorem own_chgB {α : Type} {f : α → List Value} {z : Nat} {e : TypeId} {B B' E' : Nat} {w w' : World} {v : Value} {l : List α} (h : OwnL f z e B w v l) (hc : Chg B' E' w w') (hd : ∀ g, v.ownBlock = some g → ¬ (B' ≤ g ∧ g < E')) : OwnL f z e B w' v l := by
  refine ⟨h.1, ?_⟩
  rcases h.2 with hn | ⟨g, cap, cur, rfl, hbg, hh, rest⟩
  · exact .inl hn
  · exact .inr ⟨g, cap, cur, rfl, hbg, (hc.block g (Array.getElem?_eq_some_iff.1 hh).1 (hd g rfl)).trans hh, rest⟩
theorem MrgE.chg {B E B' E' : Nat} {w w' : World} {m : Mrg} {x y z : Value} (h : MrgE B E w m x y z) (hc : Chg B' E' w w') (hd : E ≤ B' ∨ E' ≤ B) : MrgE B E w' m x y z :=
  ⟨⟨own_chgB h.o.d hc (fun g hg => by have := h.lx g hg; have := (lt_of_own h.o.d g hg).1; omega), own_chgB h.o.fr hc (fun g hg => by have := h.ly g hg; have := (lt_of_own h.o.fr g hg).1; omega), own_chgB h.o.ag hc (fun g hg => by have := h.lz g hg; have := (lt_of_own h.o.ag g hg).1; omega)⟩, h.lx, h.ly, h.lz, h.xy, h.xz, h.yz⟩
theorem MrgE.below {B E : Nat} {w w' : World} {m : Mrg} {x y z : Value} (h : MrgE B E w m x y z) (hb : Below w.heap.size w w') : MrgE B E w' m x y z := h.chg (Chg.of_below (B := E) (E := E) hb) (.inl (Nat.le_refl _))
/-- the blocks of a value alone -/
def ivB (E : Nat) (v : Value) : Nat := match v.ownBlock with | some b => b | none => E
def ivE (E : Nat) (v : Value) : Nat := match v.ownBlock with | some b => b + 1 | none => E
theorem own_iv {α : Type} {f : α → List Value} {z : Nat} {e : TypeId} {B E : Nat} {w : World} {v : Value} {l : List α} (h : OwnL f z e B w v l) (hl : ∀ g, v.ownBlock = some g → g < E) : OwnL f z e (ivB E v) w v l ∧ (∀ g, v.ownBlock = some g → g < ivE E v) := by
  refine ⟨⟨h.1, ?_⟩, fun g hg => by unfold ivE; rw [hg]; exact Nat.lt_succ_self _⟩
  rcases h.2 with hn | ⟨g, cap, cur, rfl, hbg, rest⟩
  · exact .inl hn
  · exact .inr ⟨g, cap, cur, rfl, Nat.le_refl _, rest⟩
theorem own_vi {α : Type} {f : α → List Value} {z : Nat} {e : TypeId} {B B' E : Nat} {w w' : World} {v : Value} {l l' : List α} (h0 : OwnL f z e B w v l) (h : OwnL f z e B' w' v l') : OwnL f z e B w' v l' := by
  refine ⟨h.1, ?_⟩
  rcases h.2 with hn | ⟨g, cap, cur, rfl, _, rest⟩
  · exact .inl hn
  · exact .inr ⟨g, cap, cur, rfl, (lt_of_own h0 g rfl).1, rest⟩
theorem chg_iv {α : Type} {f : α → List Value} {z : Nat} {e : TypeId} {B E : Nat} {w w' : World} {v : Value} {l : List α} {W : World} (h : OwnL f z e B W v l) (hl : ∀ g, v.ownBlock = some g → g < E) (hBE : B ≤ E) (hc : Chg (ivB E v) (ivE E v) w w') : Chg B E w w' := by
  refine hc.mono ?_ ?_
  · unfold ivB; split
    · rename_i b hb; exact (lt_of_own h b hb).1
    · exact hBE
  · unfold ivE; split
    · rename_i b hb; exact hl b hb
    · exact Nat.le_refl _
theorem iv_not {E : Nat} {u v : Value} (h : Dj u v) : ∀ g, v.ownBlock = some g → ¬ (ivB E u ≤ g ∧ g < ivE E u) := fun g hg ⟨h1, h2⟩ => by
  unfold ivB at h1; unfold ivE at h2
  split at h1
  · rename_i b hb
    rw [hb] at h2
    simp only at h2
    have : g = b := by omega
    subst this
    exact h g hb hg
  · rename_i hb
    rw [hb] at h2
    simp only at h2
    omega
/-- the cells of a merge are marked one by one -/
def markM (k : Nat) (m : Mrg) : Mrg := ⟨⟨m.d.cyl, m.d.heads, m.d.per, m.d.size, RSectorS.mark k m.d.secs⟩, RInt64S.mark (k + m.d.secs.length * 2) m.fr, RInt64S.mark (k + m.d.secs.length * 2 + m.fr.length) m.ag⟩
structure MSmall (m : Mrg) : Prop where
  d : m.d.secs.length ≤ 1048576
  fr : m.fr.length ≤ 1048576
  ag : m.ag.length ≤ 1048576
set_option maxRecDepth 20000 in
set_option maxHeartbeats 4000000 in
theorem markMrg (m : Mrg) (x y z : Value) (k0 B E : Nat) (w : World) (h : MrgE B E w m x y z) (hm : MSmall m) (hBE : B ≤ E) (hE : E ≤ w.heap.size) (h0 : 1 ≤ k0) (hk : k0 ≤ 33554432) :
    Calls Try.prog 55 #[mrgV m x y z, .int .i64 k0] w fun e w' => e = .returned (.int .i64 ((k0 + m.d.secs.length * 2 + m.fr.length + m.ag.length : Nat) : Int)) ∧ MrgE B E w' (markM k0 m) x y z ∧ Chg B E w w' := by
  have hd := hm.d
  have hf := hm.fr
  have hg := hm.ag
  have HI := Lib.hid h
  obtain ⟨A, n0, c, rfl⟩ := own_slice h.o.d
  obtain ⟨A1, n1, c1, rfl⟩ := own_slice h.o.fr
  obtain ⟨A2, n2, c2, rfl⟩ := own_slice h.o.ag
  have HB : Below w.heap.size w (w.alloc (.cells #[.int .i64 m.d.cyl, .int .i64 m.d.heads, .int .i64 m.d.per, .int .i64 m.d.size, .slice A n0 c, .slice A1 n1 c1, .slice A2 n2 c2] 41)) := Below.alloc (Below.refl _ _) (Nat.le_refl _) _
  have R0 : Row (w.alloc (.cells #[.int .i64 m.d.cyl, .int .i64 m.d.heads, .int .i64 m.d.per, .int .i64 m.d.size, .slice A n0 c, .slice A1 n1 c1, .slice A2 n2 c2] 41)) w.heap.size (mrL m.d (.slice A n0 c) (.slice A1 n1 c1) (.slice A2 n2 c2)) := Row.alloc w _ _
  have hz : w.heap.size < (w.alloc (.cells #[.int .i64 m.d.cyl, .int .i64 m.d.heads, .int .i64 m.d.per, .int .i64 m.d.size, .slice A n0 c, .slice A1 n1 c1, .slice A2 n2 c2] 41)).heap.size := by simp
  have H0 := Lib.hid (HI.out.below HB)
  have HX := Lib.hid (own_iv H0.out.o.d H0.out.lx)
  have HD := Lib.hid (markDsc m.d _ k0 _ _ _ HX.out hd h0 (by omega))
  have hivx : ivE E (.slice A n0 c) ≤ E := by unfold ivE; split; (rename_i b hb; exact h.lx b hb); exact Nat.le_refl _
  have hivy : ivE E (.slice A1 n1 c1) ≤ E := by unfold ivE; split; (rename_i b hb; exact h.ly b hb); exact Nat.le_refl _
  have k1 := R0 0 _ rfl
  have k2 := R0 1 _ rfl
  have k3 := R0 2 _ rfl
  have k4 := R0 3 _ rfl
  have k5 := R0 4 _ rfl
  clear h
  go_enter Try.func55, Try.ntmps55
  go_wp2_with (fail)
  refine HD.out.mono ?_; rintro e w1 ⟨rfl, o1, hc1⟩
  have R1 := R0.chg hc1 hz (.inr (by omega))
  have HF1 := Lib.hid (own_iv (own_chgB H0.out.o.fr hc1 (iv_not H0.out.xy)) H0.out.ly)
  have HG1 := Lib.hid (own_chgB H0.out.o.ag hc1 (iv_not H0.out.xz))
  have HC1 := Lib.hid (chg_iv H0.out.o.d H0.out.lx hBE hc1)
  have HO1 := Lib.hid o1
  have HM1 := Lib.hid (r_markInt64S m.fr _ (k0 + m.d.secs.length * 2) _ _ w1 HF1.out (by show m.fr.length * 1 ≤ _; omega) (by omega) (by omega))
  have hz1 : w.heap.size < w1.heap.size := Nat.lt_of_lt_of_le hz hc1.size
  have q5 := R1 5 _ rfl
  have dk1 : True := trivial
  clear HD HX k1 k2 k3 k4 k5 R0 o1 hc1
  go_wp2_with (fail)
  refine HM1.out.mono ?_; rintro e w2 ⟨rfl, o2, hc2⟩
  have R2 := R1.chg hc2 hz1 (.inr (by omega))
  have HG2 := Lib.hid (own_iv (own_chgB HG1.out hc2 (iv_not H0.out.yz)) H0.out.lz)
  have HO2 := Lib.hid (own_chgB HO1.out.1 hc2 (iv_not H0.out.xy.symm))
  have HF2 := Lib.hid o2
  have HC2 := Lib.hid (HC1.out.trans (chg_iv H0.out.o.fr H0.out.ly hBE hc2))
  have ecnt : k0 + m.d.secs.length * 2 + RInt64S.cnt m.fr = k0 + m.d.secs.length * 2 + m.fr.length := by show _ + m.fr.length * 1 = _; omega
  rw [ecnt]
  have HM2 := Lib.hid (r_markInt64S m.ag _ (k0 + m.d.secs.length * 2 + m.fr.length) _ _ w2 HG2.out (by show m.ag.length * 1 ≤ _; omega) (by omega) (by omega))
  have q6 := R2 6 _ rfl
  clear HM1 HG1 HO1 HC1 R1 q5 o2 hc2 ecnt HF1
  go_wp2_with (fail)
  refine HM2.out.mono ?_; rintro e w3 ⟨rfl, o3, hc3⟩
  have ecnt : k0 + m.d.secs.length * 2 + m.fr.length + RInt64S.cnt m.ag = k0 + m.d.secs.length * 2 + m.fr.length + m.ag.length := by show _ + m.ag.length * 1 = _; omega
  rw [ecnt]
  clear HM2 q6 R2
  have HR : Hid (MrgE B E w3 (markM k0 m) (.slice A n0 c) (.slice A1 n1 c1) (.slice A2 n2 c2) ∧ Chg B E w w3) := Lib.hid ⟨⟨⟨own_vi (E := E) H0.out.o.d (own_chgB HO2.out hc3 (iv_not H0.out.xz.symm)), own_vi (E := E) H0.out.o.fr (own_chgB HF2.out.1 hc3 (iv_not H0.out.yz.symm)), own_vi (E := E) H0.out.o.ag o3.1⟩, H0.out.lx, H0.out.ly, H0.out.lz, H0.out.xy, H0.out.xz, H0.out.yz⟩, ((Chg.of_below HB).trans HC2.out).trans (chg_iv H0.out.o.ag H0.out.lz hBE hc3)⟩
  clear HO2 HF2 HC2 HG2 H0 o3 hc3 HI
  go_wp2
  go_ret
  exact ⟨rfl, HR.out⟩
set_option maxRecDepth 20000 in
set_option maxHeartbeats 4000000 in
theorem heldMrg (m : Mrg) (x y z : Value) (k0 B E : Nat) (w : World) (h : MrgE B E w (markM k0 m) x y z) (hm : MSmall m) (h0 : 1 ≤ k0) (hk : k0 ≤ 33554432) :
    Calls Try.prog 56 #[mrgV m x y z, .int .i64 k0] w fun e w' => e = .returned (.int .i64 ((k0 + m.d.secs.length * 2 + m.fr.length + m.ag.length : Nat) : Int)) ∧ Below w.heap.size w w' := by
  have hd := hm.d
  have hf := hm.fr
  have hg := hm.ag
  obtain ⟨A, n0, c, rfl⟩ := own_slice h.o.d
  obtain ⟨A1, n1, c1, rfl⟩ := own_slice h.o.fr
  obtain ⟨A2, n2, c2, rfl⟩ := own_slice h.o.ag
  have hn0 : n0 = m.d.secs.length := by
    obtain ⟨A', c', e1, _⟩ := OwnL.shape h.o.d
    injection e1 with _ e1 _
    rw [e1]; exact Sec.marks_len _ _
  have HB : Below w.heap.size w (w.alloc (.cells #[.int .i64 m.d.cyl, .int .i64 m.d.heads, .int .i64 m.d.per, .int .i64 m.d.size, .slice A n0 c, .slice A1 n1 c1, .slice A2 n2 c2] 41)) := Below.alloc (Below.refl _ _) (Nat.le_refl _) _
  have R0 : Row (w.alloc (.cells #[.int .i64 m.d.cyl, .int .i64 m.d.heads, .int .i64 m.d.per, .int .i64 m.d.size, .slice A n0 c, .slice A1 n1 c1, .slice A2 n2 c2] 41)) w.heap.size (mrL m.d (.slice A n0 c) (.slice A1 n1 c1) (.slice A2 n2 c2)) := Row.alloc w _ _
  have hz : w.heap.size < (w.alloc (.cells #[.int .i64 m.d.cyl, .int .i64 m.d.heads, .int .i64 m.d.per, .int .i64 m.d.size, .slice A n0 c, .slice A1 n1 c1, .slice A2 n2 c2] 41)).heap.size := by simp
  have H0 := Lib.hid (h.below HB)
  have HD := Lib.hid (heldDsc m.d (.slice A n0 c) k0 B E _ ⟨H0.out.o.d, H0.out.lx⟩ hd h0 (by omega) ⟨A, c, by rw [hn0]⟩)
  have k1 := R0 0 _ rfl
  have k2 := R0 1 _ rfl
  have k3 := R0 2 _ rfl
  have k4 := R0 3 _ rfl
  have k5 := R0 4 _ rfl
  have d1 : decide (((k0 + m.d.secs.length * 2 : Nat) : Int) < 0) = false := by simp; omega
  clear h hn0
  go_enter Try.func56, Try.ntmps56
  go_wp2_with (fail)
  refine HD.out.mono ?_; rintro e w1 ⟨rfl, hb1⟩
  have R1 := R0.below hb1 hz
  have H1 := Lib.hid (H0.out.below hb1)
  have HB1 := HB.trans (hb1.mono (by omega))
  have hz1 : w.heap.size < w1.heap.size := Nat.lt_of_lt_of_le hz hb1.size
  have HM1 := Lib.hid (r_heldInt64S m.fr _ (k0 + m.d.secs.length * 2) B E w1 ⟨H1.out.o.fr, H1.out.ly⟩ (by show m.fr.length * 1 ≤ _; omega) (by omega) (by omega))
  have q5 := R1 5 _ rfl
  clear HD H0 k1 k2 k3 k4 k5 R0 hb1 HB
  go_wp2_with (fail)
  refine HM1.out.mono ?_; rintro e w2 ⟨rfl, hb2⟩
  have R2 := R1.below hb2 hz1
  have H2 := Lib.hid (H1.out.below hb2)
  have HB2 := HB1.trans (hb2.mono (by omega))
  have ecnt : k0 + m.d.secs.length * 2 + RInt64S.cnt m.fr = k0 + m.d.secs.length * 2 + m.fr.length := by show _ + m.fr.length * 1 = _; omega
  rw [ecnt]
  have HM2 := Lib.hid (r_heldInt64S m.ag _ (k0 + m.d.secs.length * 2 + m.fr.length) B E w2 ⟨H2.out.o.ag, H2.out.lz⟩ (by show m.ag.length * 1 ≤ _; omega) (by omega) (by omega))
  have q6 := R2 6 _ rfl
  have hz2 := hb2.size
  have d2 : decide (((k0 + m.d.secs.length * 2 + m.fr.length : Nat) : Int) < 0) = false := by simp; omega
  clear HM1 H1 R1 q5 ecnt hb2
  go_wp2_with (fail)
  refine HM2.out.mono ?_; rintro e w3 ⟨rfl, hb3⟩
  have ecnt : k0 + m.d.secs.length * 2 + m.fr.length + RInt64S.cnt m.ag = k0 + m.d.secs.length * 2 + m.fr.length + m.ag.length := by show _ + m.ag.length * 1 = _; omega
  rw [ecnt]
  have d3 : decide (((k0 + m.d.secs.length * 2 + m.fr.length + m.ag.length : Nat) : Int) < 0) = false := by simp; omega
  have HB3 := HB2.trans (hb3.mono (by omega))
  clear HM2 q6 R2 H2 hb3 ecnt
  go_wp2
  go_ret
  exact ⟨rfl, HB3⟩
end Go.Proofs.Ytignjjkldmninaa
namespace Go.Proofs.Ytignjjkldmninaa
open Go.RowKit
abbrev Sev (m : Mrg) (x y z : Value) (b : Nat) (w : World) : Prop := w.cell? ⟨b, 0, none⟩ = some (.int .i64 m.d.cyl) ∧ w.cell? ⟨b, 1, none⟩ = some (.int .i64 m.d.heads) ∧ w.cell? ⟨b, 2, none⟩ = some (.int .i64 m.d.per) ∧ w.cell? ⟨b, 3, none⟩ = some (.int .i64 m.d.size) ∧ w.cell? ⟨b, 4, none⟩ = some x ∧ w.cell? ⟨b, 5, none⟩ = some y ∧ w.cell? ⟨b, 6, none⟩ = some z
theorem Row.sev {w : World} {b : Nat} {m : Mrg} {x y z : Value} (h : Row w b (mrL m.d x y z)) : Sev m x y z b w := ⟨h 0 _ rfl, h 1 _ rfl, h 2 _ rfl, h 3 _ rfl, h 4 _ rfl, h 5 _ rfl, h 6 _ rfl⟩
theorem mdE_small (l : List Dsc) : MSmall (mdE l).1 := by
  cases hok : dumpsOk l
  · rw [mdE_no hok]; exact ⟨by simp [mrgZ0], by simp [mrgZ0], by simp [mrgZ0]⟩
  · obtain ⟨z, hz⟩ := du_first hok
    have hzn : z.secs.length ≤ 128 := ok_le (du_mem hok hz (List.mem_of_getElem? hz)).1
    rw [mdE_yes hok hz]
    exact ⟨by show (mdS l z.secs.length).length ≤ _; rw [mdS_len]; omega, by show (mdF l z.secs.length).length ≤ _; rw [mdF_len]; omega, by show (mdA l z.secs.length).length ≤ _; rw [mdA_len]; omega⟩
theorem MdR.ivl {w : World} {r : Mrg × Int} {e : Ending} {w' : World} (h : MdR w r e w') : ∃ A c A1 c1 A2 c2, e = .returned (.tuple #[mrgV r.1 (.slice A r.1.d.secs.length c) (.slice A1 r.1.fr.length c1) (.slice A2 r.1.ag.length c2), .int .i64 r.2]) ∧ MrgE w.heap.size w'.heap.size w' r.1 (.slice A r.1.d.secs.length c) (.slice A1 r.1.fr.length c1) (.slice A2 r.1.ag.length c2) ∧ Below w.heap.size w w' := by
  obtain ⟨A, c, A1, c1, A2, c2, rfl, h2, ⟨h3, h4, h5⟩, h6⟩ := h
  exact ⟨A, c, A1, c1, A2, c2, rfl, ⟨h2, fun g hg => (lt_of_own h2.d g hg).2, fun g hg => (lt_of_own h2.fr g hg).2, fun g hg => (lt_of_own h2.ag g hg).2, h3, h4, h5⟩, h6⟩
set_option maxRecDepth 20000 in
set_option maxHeartbeats 8000000 in
theorem walkFnExactMergeDumps (l : List Dsc) (v_l : Value) (w : World) (r_l : RDscS.raw w v_l l) :
    Calls Try.prog 12 #[v_l] w fun e w' => e = .returned (.bool true) ∧ Below w.heap.size w w' := by
  by_cases q_l : ((RDscS.wt l : Nat) : Int) ≤ 1048576
  rotate_left
  · have H0 : szR (1048576) (RDscS.wt l) < 0 := szR_neg.2 q_l
    go_enter Try.func12, Try.ntmps12
    go_wp2_with (fail)
    refine (r_szDscS l v_l _ _ (RDscS.rawk r_l (Below.refl _ _)) (by omega)).mono ?_; rintro e w1 ⟨rfl, hb1⟩
    go_wp2_with (fail)
    go_ret
    exact ⟨rfl, hb1⟩
  have H0 : 0 ≤ szR (1048576) (RDscS.wt l) := szR_pos.2 q_l
  have hw_l : l.length + Dsc.wts l ≤ 1048576 := by have : ((l.length + Dsc.wts l : Nat) : Int) ≤ 1048576 := q_l; omega
  have cnt_l : RDscS.wt l ≤ 1048576 := hw_l
  have hn_l : l.length ≤ 1048576 := by omega
  have HSp := Lib.hid (fun B W v (o : DscOwn B W v l) => md_s B l v W o hn_l (dsc_bl cnt_l) (dsc_in r_l))
  have HIm := Lib.hid (fun B W v (o : DscOwn B W v l) => md_i B l v W o hn_l (dsc_bl cnt_l) (dsc_in r_l))
  have hsm := mdE_small l
  generalize mdE l = r at *
  have dk : decide (((1 + r.1.d.secs.length * 2 + r.1.fr.length + r.1.ag.length : Nat) : Int) < 0) = false := by simp; omega
  have hd := hsm.d
  have hf := hsm.fr
  have hg := hsm.ag
  go_enter Try.func12, Try.ntmps12
  go_wp2_with (fail)
  refine (r_szDscS l v_l _ _ (RDscS.rawk r_l (Below.refl _ _)) (by omega)).mono ?_; rintro e w1 ⟨rfl, hb1⟩
  have hz1 := hb1.size
  have hB1 : Below w.heap.size w w1 := hb1
  go_wp2_with (fail)
  refine (r_toDscS l v_l _ (RDscS.rawk r_l hB1) (by omega)).mono ?_; rintro e w2 ⟨v2, rfl, ow2, hbw2⟩
  have hzw2 : w1.heap.size ≤ w2.heap.size := hbw2.size
  have hBw2 : Below w.heap.size w w2 := hB1.trans (hbw2.mono (by omega))
  go_wp2_with (fail)
  refine (HSp.out _ _ _ (dsc_own ow2)).mono ?_; rintro e w3 hrw3
  obtain ⟨Aw3, cw3, Bw3, dw3, Cw3, ew3, rfl, iw3, hbw3⟩ := hrw3.ivl
  clear hrw3
  have hzw3 : w2.heap.size ≤ w3.heap.size := hbw3.size
  have hBw3 : Below w.heap.size w w3 := hBw2.trans (hbw3.mono (by omega))
  have XS_w3 := Rep.keep (R := RDscS) ow2 hbw3
  clear ow2
  have Iw3 := Lib.hid iw3
  clear iw3
  have hbW3 : Below w3.heap.size w3 (w3.alloc (.cells #[.int .i64 r.1.d.cyl, .int .i64 r.1.d.heads, .int .i64 r.1.d.per, .int .i64 r.1.d.size, .slice Aw3 r.1.d.secs.length cw3, .slice Bw3 r.1.fr.length dw3, .slice Cw3 r.1.ag.length ew3] 41)) := Below.alloc (Below.refl _ _) (Nat.le_refl _) _
  have RW3 : Row (w3.alloc (.cells #[.int .i64 r.1.d.cyl, .int .i64 r.1.d.heads, .int .i64 r.1.d.per, .int .i64 r.1.d.size, .slice Aw3 r.1.d.secs.length cw3, .slice Bw3 r.1.fr.length dw3, .slice Cw3 r.1.ag.length ew3] 41)) w3.heap.size (mrL r.1.d (.slice Aw3 r.1.d.secs.length cw3) (.slice Bw3 r.1.fr.length dw3) (.slice Cw3 r.1.ag.length ew3)) := Row.alloc w3 _ _
  have hlW3 : w3.heap.size < (w3.alloc (.cells #[.int .i64 r.1.d.cyl, .int .i64 r.1.d.heads, .int .i64 r.1.d.per, .int .i64 r.1.d.size, .slice Aw3 r.1.d.secs.length cw3, .slice Bw3 r.1.fr.length dw3, .slice Cw3 r.1.ag.length ew3] 41)).heap.size := by simp
  have hzW3 : w3.heap.size ≤ (w3.alloc (.cells #[.int .i64 r.1.d.cyl, .int .i64 r.1.d.heads, .int .i64 r.1.d.per, .int .i64 r.1.d.size, .slice Aw3 r.1.d.secs.length cw3, .slice Bw3 r.1.fr.length dw3, .slice Cw3 r.1.ag.length ew3] 41)).heap.size := hbW3.size
  have hBW3 : Below w.heap.size w (w3.alloc (.cells #[.int .i64 r.1.d.cyl, .int .i64 r.1.d.heads, .int .i64 r.1.d.per, .int .i64 r.1.d.size, .slice Aw3 r.1.d.secs.length cw3, .slice Bw3 r.1.fr.length dw3, .slice Cw3 r.1.ag.length ew3] 41)) := hBw3.trans (hbW3.mono (by omega))
  have XS_W3 := Rep.keep (R := RDscS) XS_w3 hbW3
  have S_W3 := Lib.hid (Iw3.out.below hbW3)
  clear XS_w3 Iw3
  go_wp2_with (fail)
  generalize (w3.alloc (.cells #[.int .i64 r.1.d.cyl, .int .i64 r.1.d.heads, .int .i64 r.1.d.per, .int .i64 r.1.d.size, .slice Aw3 r.1.d.secs.length cw3, .slice Bw3 r.1.fr.length dw3, .slice Cw3 r.1.ag.length ew3] 41)) = W3 at *
  refine (r_toDscS l v_l _ (RDscS.rawk r_l hBW3) (by omega)).mono ?_; rintro e w4 ⟨v4, rfl, ow4, hbw4⟩
  have hzw4 : W3.heap.size ≤ w4.heap.size := hbw4.size
  have hBw4 : Below w.heap.size w w4 := hBW3.trans (hbw4.mono (by omega))
  have S_w4 := Lib.hid (S_W3.out.below hbw4)
  have R4_w4 := RW3.below hbw4 (by omega)
  clear S_W3 RW3
  go_wp2_with (fail)
  refine (HIm.out _ _ _ (dsc_own ow4)).mono ?_; rintro e w5 hrw5
  obtain ⟨Aw5, cw5, Bw5, dw5, Cw5, ew5, rfl, iw5, hbw5⟩ := hrw5.ivl
  clear hrw5
  have hzw5 : w4.heap.size ≤ w5.heap.size := hbw5.size
  have hBw5 : Below w.heap.size w w5 := hBw4.trans (hbw5.mono (by omega))
  have S_w5 := Lib.hid (S_w4.out.below hbw5)
  have R4_w5 := R4_w4.below hbw5 (by omega)
  have X_w5 := Rep.keep (R := RDscS) ow4 hbw5
  clear S_w4 R4_w4 ow4
  have Iw5 := Lib.hid iw5
  clear iw5
  have hbW5 : Below w5.heap.size w5 (w5.alloc (.cells #[.int .i64 r.1.d.cyl, .int .i64 r.1.d.heads, .int .i64 r.1.d.per, .int .i64 r.1.d.size, .slice Aw5 r.1.d.secs.length cw5, .slice Bw5 r.1.fr.length dw5, .slice Cw5 r.1.ag.length ew5] 41)) := Below.alloc (Below.refl _ _) (Nat.le_refl _) _
  have RW5 : Row (w5.alloc (.cells #[.int .i64 r.1.d.cyl, .int .i64 r.1.d.heads, .int .i64 r.1.d.per, .int .i64 r.1.d.size, .slice Aw5 r.1.d.secs.length cw5, .slice Bw5 r.1.fr.length dw5, .slice Cw5 r.1.ag.length ew5] 41)) w5.heap.size (mrL r.1.d (.slice Aw5 r.1.d.secs.length cw5) (.slice Bw5 r.1.fr.length dw5) (.slice Cw5 r.1.ag.length ew5)) := Row.alloc w5 _ _
  have hlW5 : w5.heap.size < (w5.alloc (.cells #[.int .i64 r.1.d.cyl, .int .i64 r.1.d.heads, .int .i64 r.1.d.per, .int .i64 r.1.d.size, .slice Aw5 r.1.d.secs.length cw5, .slice Bw5 r.1.fr.length dw5, .slice Cw5 r.1.ag.length ew5] 41)).heap.size := by simp
  have hzW5 : w5.heap.size ≤ (w5.alloc (.cells #[.int .i64 r.1.d.cyl, .int .i64 r.1.d.heads, .int .i64 r.1.d.per, .int .i64 r.1.d.size, .slice Aw5 r.1.d.secs.length cw5, .slice Bw5 r.1.fr.length dw5, .slice Cw5 r.1.ag.length ew5] 41)).heap.size := hbW5.size
  have hBW5 : Below w.heap.size w (w5.alloc (.cells #[.int .i64 r.1.d.cyl, .int .i64 r.1.d.heads, .int .i64 r.1.d.per, .int .i64 r.1.d.size, .slice Aw5 r.1.d.secs.length cw5, .slice Bw5 r.1.fr.length dw5, .slice Cw5 r.1.ag.length ew5] 41)) := hBw5.trans (hbW5.mono (by omega))
  have S_W5 := Lib.hid (S_w5.out.below hbW5)
  have R4_W5 := R4_w5.below hbW5 (by omega)
  have X_W5 := Rep.keep (R := RDscS) X_w5 hbW5
  have G_W5 := Lib.hid (Iw5.out.below hbW5)
  clear S_w5 R4_w5 X_w5 Iw5
  obtain ⟨k0, k1, k2, k3, k4, k5, k6⟩ := RW5.sev
  obtain ⟨j0, j1, j2, j3, j4, j5, j6⟩ := R4_W5.sev
  go_wp2_with (fail)
  generalize (w5.alloc (.cells #[.int .i64 r.1.d.cyl, .int .i64 r.1.d.heads, .int .i64 r.1.d.per, .int .i64 r.1.d.size, .slice Aw5 r.1.d.secs.length cw5, .slice Bw5 r.1.fr.length dw5, .slice Cw5 r.1.ag.length ew5] 41)) = W5 at *
  refine (eqMrg r.1 _ _ _ G_W5.out.o S_W5.out.o (by omega) (by omega) (by omega)).mono ?_; rintro e w6 ⟨rfl, hbw6⟩
  clear k0 k1 k2 k3 k4 k5 k6
  clear j0 j1 j2 j3 j4 j5 j6
  have hzw6 : W5.heap.size ≤ w6.heap.size := hbw6.size
  have hBw6 : Below w.heap.size w w6 := hBW5.trans (hbw6.mono (by omega))
  have S_w6 := Lib.hid (S_W5.out.below hbw6)
  have R4_w6 := R4_W5.below hbw6 (by omega)
  have X_w6 := Rep.keep (R := RDscS) X_W5 hbw6
  have G_w6 := Lib.hid (G_W5.out.below hbw6)
  have R7_w6 := RW5.below hbw6 (by omega)
  clear S_W5 R4_W5 X_W5 G_W5 RW5
  go_wp2_with (fail)
  refine (r_toDscS l v_l _ (RDscS.rawk r_l hBw6) (by omega)).mono ?_; rintro e w7 ⟨v7, rfl, ow7, hbw7⟩
  have hzw7 : w6.heap.size ≤ w7.heap.size := hbw7.size
  have hBw7 : Below w.heap.size w w7 := hBw6.trans (hbw7.mono (by omega))
  have S_w7 := Lib.hid (S_w6.out.below hbw7)
  have R4_w7 := R4_w6.below hbw7 (by omega)
  have X_w7 := Rep.keep (R := RDscS) X_w6 hbw7
  have G_w7 := Lib.hid (G_w6.out.below hbw7)
  have R7_w7 := R7_w6.below hbw7 (by omega)
  clear S_w6 R4_w6 X_w6 G_w6 R7_w6
  go_wp2_with (fail)
  refine (r_eqDscS l _ _ _ _ _ _ _ X_w7 ow7 cnt_l).mono ?_; rintro e w8 ⟨rfl, hbw8⟩
  have hzw8 : w7.heap.size ≤ w8.heap.size := hbw8.size
  have hBw8 : Below w.heap.size w w8 := hBw7.trans (hbw8.mono (by omega))
  have S_w8 := Lib.hid (S_w7.out.below hbw8)
  have R4_w8 := R4_w7.below hbw8 (by omega)
  have X_w8 := Rep.keep (R := RDscS) X_w7 hbw8
  have G_w8 := Lib.hid (G_w7.out.below hbw8)
  have R7_w8 := R7_w7.below hbw8 (by omega)
  clear S_w7 R4_w7 X_w7 G_w7 R7_w7
  go_wp2_with (fail)
  refine (r_markDscS l _ (1) _ _ _ X_w8 cnt_l (by omega) (by omega)).mono ?_; rintro e w9 ⟨rfl, -, hcw9⟩
  clear X_w8
  have hzw9 : w8.heap.size ≤ w9.heap.size := hcw9.size
  have hBw9 : Below w.heap.size w w9 := Chg.below hBw8 hcw9 (by omega) (Nat.le_refl _)
  have S_w9 := Lib.hid (S_w8.out.chg hcw9 (by omega))
  have R4_w9 := R4_w8.chg hcw9 (by omega) (by omega)
  have G_w9 := Lib.hid (G_w8.out.chg hcw9 (by omega))
  have R7_w9 := R7_w8.chg hcw9 (by omega) (by omega)
  clear S_w8 R4_w8 G_w8 R7_w8
  have dm : decide (((1 + RDscS.cnt l : Nat) : Int) < 0) = false := by simp; omega
  obtain ⟨k0, k1, k2, k3, k4, k5, k6⟩ := R7_w9.sev
  obtain ⟨j0, j1, j2, j3, j4, j5, j6⟩ := R4_w9.sev
  go_wp2_with (fail)
  refine (eqMrg r.1 _ _ _ G_w9.out.o S_w9.out.o (by omega) (by omega) (by omega)).mono ?_; rintro e w10 ⟨rfl, hbw10⟩
  clear k0 k1 k2 k3 k4 k5 k6
  clear j0 j1 j2 j3 j4 j5 j6
  have hzw10 : w9.heap.size ≤ w10.heap.size := hbw10.size
  have hBw10 : Below w.heap.size w w10 := hBw9.trans (hbw10.mono (by omega))
  have S_w10 := Lib.hid (S_w9.out.below hbw10)
  have R4_w10 := R4_w9.below hbw10 (by omega)
  have G_w10 := Lib.hid (G_w9.out.below hbw10)
  have R7_w10 := R7_w9.below hbw10 (by omega)
  clear S_w9 R4_w9 G_w9 R7_w9
  obtain ⟨k0, k1, k2, k3, k4, k5, k6⟩ := R7_w10.sev
  go_wp2_with (fail)
  refine (markMrg r.1 _ _ _ 1 _ _ _ G_w10.out hsm (by omega) (by omega) (by omega) (by omega)).mono ?_; rintro e w11 ⟨rfl, iw11, hcw11⟩
  clear k0 k1 k2 k3 k4 k5 k6
  clear G_w10
  have hzw11 : w10.heap.size ≤ w11.heap.size := hcw11.size
  have hBw11 : Below w.heap.size w w11 := Chg.below hBw10 hcw11 (by omega) (Nat.le_refl _)
  have S_w11 := Lib.hid (S_w10.out.chg hcw11 (by omega))
  have R4_w11 := R4_w10.chg hcw11 (by omega) (by omega)
  have R7_w11 := R7_w10.chg hcw11 (by omega) (by omega)
  clear S_w10 R4_w10 R7_w10
  have Iw11 := Lib.hid iw11
  clear iw11
  obtain ⟨k0, k1, k2, k3, k4, k5, k6⟩ := R7_w11.sev
  go_wp2_with (fail)
  refine (heldMrg r.1 _ _ _ 1 _ _ _ Iw11.out hsm (by omega) (by omega)).mono ?_; rintro e w12 ⟨rfl, hbw12⟩
  clear k0 k1 k2 k3 k4 k5 k6
  have hzw12 : w11.heap.size ≤ w12.heap.size := hbw12.size
  have hBw12 : Below w.heap.size w w12 := hBw11.trans (hbw12.mono (by omega))
  have S_w12 := Lib.hid (S_w11.out.below hbw12)
  have R4_w12 := R4_w11.below hbw12 (by omega)
  have R7_w12 := R7_w11.below hbw12 (by omega)
  have G_w12 := Lib.hid (Iw11.out.below hbw12)
  clear S_w11 R4_w11 R7_w11 Iw11
  go_wp2_with (fail)
  refine (r_toDscS l v_l _ (RDscS.rawk r_l hBw12) (by omega)).mono ?_; rintro e w13 ⟨v13, rfl, ow13, hbw13⟩
  have hzw13 : w12.heap.size ≤ w13.heap.size := hbw13.size
  have hBw13 : Below w.heap.size w w13 := hBw12.trans (hbw13.mono (by omega))
  have S_w13 := Lib.hid (S_w12.out.below hbw13)
  have R4_w13 := R4_w12.below hbw13 (by omega)
  have R7_w13 := R7_w12.below hbw13 (by omega)
  have G_w13 := Lib.hid (G_w12.out.below hbw13)
  clear S_w12 R4_w12 R7_w12 G_w12
  go_wp2_with (fail)
  refine (HIm.out _ _ _ (dsc_own ow13)).mono ?_; rintro e w14 hrw14
  obtain ⟨Aw14, cw14, Bw14, dw14, Cw14, ew14, rfl, iw14, hbw14⟩ := hrw14.ivl
  clear hrw14
  have hzw14 : w13.heap.size ≤ w14.heap.size := hbw14.size
  have hBw14 : Below w.heap.size w w14 := hBw13.trans (hbw14.mono (by omega))
  have S_w14 := Lib.hid (S_w13.out.below hbw14)
  have R4_w14 := R4_w13.below hbw14 (by omega)
  have R7_w14 := R7_w13.below hbw14 (by omega)
  have G_w14 := Lib.hid (G_w13.out.below hbw14)
  clear S_w13 R4_w13 R7_w13 G_w13
  have Iw14 := Lib.hid iw14
  clear iw14
  have hbW14 : Below w14.heap.size w14 (w14.alloc (.cells #[.int .i64 r.1.d.cyl, .int .i64 r.1.d.heads, .int .i64 r.1.d.per, .int .i64 r.1.d.size, .slice Aw14 r.1.d.secs.length cw14, .slice Bw14 r.1.fr.length dw14, .slice Cw14 r.1.ag.length ew14] 41)) := Below.alloc (Below.refl _ _) (Nat.le_refl _) _
  have RW14 : Row (w14.alloc (.cells #[.int .i64 r.1.d.cyl, .int .i64 r.1.d.heads, .int .i64 r.1.d.per, .int .i64 r.1.d.size, .slice Aw14 r.1.d.secs.length cw14, .slice Bw14 r.1.fr.length dw14, .slice Cw14 r.1.ag.length ew14] 41)) w14.heap.size (mrL r.1.d (.slice Aw14 r.1.d.secs.length cw14) (.slice Bw14 r.1.fr.length dw14) (.slice Cw14 r.1.ag.length ew14)) := Row.alloc w14 _ _
  have hlW14 : w14.heap.size < (w14.alloc (.cells #[.int .i64 r.1.d.cyl, .int .i64 r.1.d.heads, .int .i64 r.1.d.per, .int .i64 r.1.d.size, .slice Aw14 r.1.d.secs.length cw14, .slice Bw14 r.1.fr.length dw14, .slice Cw14 r.1.ag.length ew14] 41)).heap.size := by simp
  have hzW14 : w14.heap.size ≤ (w14.alloc (.cells #[.int .i64 r.1.d.cyl, .int .i64 r.1.d.heads, .int .i64 r.1.d.per, .int .i64 r.1.d.size, .slice Aw14 r.1.d.secs.length cw14, .slice Bw14 r.1.fr.length dw14, .slice Cw14 r.1.ag.length ew14] 41)).heap.size := hbW14.size
  have hBW14 : Below w.heap.size w (w14.alloc (.cells #[.int .i64 r.1.d.cyl, .int .i64 r.1.d.heads, .int .i64 r.1.d.per, .int .i64 r.1.d.size, .slice Aw14 r.1.d.secs.length cw14, .slice Bw14 r.1.fr.length dw14, .slice Cw14 r.1.ag.length ew14] 41)) := hBw14.trans (hbW14.mono (by omega))
  have S_W14 := Lib.hid (S_w14.out.below hbW14)
  have R4_W14 := R4_w14.below hbW14 (by omega)
  have R7_W14 := R7_w14.below hbW14 (by omega)
  have G_W14 := Lib.hid (G_w14.out.below hbW14)
  have H_W14 := Lib.hid (Iw14.out.below hbW14)
  clear S_w14 R4_w14 R7_w14 G_w14 Iw14
  obtain ⟨k0, k1, k2, k3, k4, k5, k6⟩ := RW14.sev
  obtain ⟨j0, j1, j2, j3, j4, j5, j6⟩ := R4_W14.sev
  go_wp2_with (fail)
  generalize (w14.alloc (.cells #[.int .i64 r.1.d.cyl, .int .i64 r.1.d.heads, .int .i64 r.1.d.per, .int .i64 r.1.d.size, .slice Aw14 r.1.d.secs.length cw14, .slice Bw14 r.1.fr.length dw14, .slice Cw14 r.1.ag.length ew14] 41)) = W14 at *
  refine (eqMrg r.1 _ _ _ H_W14.out.o S_W14.out.o (by omega) (by omega) (by omega)).mono ?_; rintro e w15 ⟨rfl, hbw15⟩
  clear k0 k1 k2 k3 k4 k5 k6
  clear j0 j1 j2 j3 j4 j5 j6
  have hzw15 : W14.heap.size ≤ w15.heap.size := hbw15.size
  have hBw15 : Below w.heap.size w w15 := hBW14.trans (hbw15.mono (by omega))
  have S_w15 := Lib.hid (S_W14.out.below hbw15)
  have R4_w15 := R4_W14.below hbw15 (by omega)
  have R7_w15 := R7_W14.below hbw15 (by omega)
  have G_w15 := Lib.hid (G_W14.out.below hbw15)
  have H_w15 := Lib.hid (H_W14.out.below hbw15)
  have R12_w15 := RW14.below hbw15 (by omega)
  clear S_W14 R4_W14 R7_W14 G_W14 H_W14 RW14
  obtain ⟨k0, k1, k2, k3, k4, k5, k6⟩ := R7_w15.sev
  go_wp2_with (fail)
  refine (heldMrg r.1 _ _ _ 1 _ _ _ G_w15.out hsm (by omega) (by omega)).mono ?_; rintro e w16 ⟨rfl, hbw16⟩
  clear k0 k1 k2 k3 k4 k5 k6
  have hzw16 : w15.heap.size ≤ w16.heap.size := hbw16.size
  have hBw16 : Below w.heap.size w w16 := hBw15.trans (hbw16.mono (by omega))
  have S_w16 := Lib.hid (S_w15.out.below hbw16)
  have R4_w16 := R4_w15.below hbw16 (by omega)
  have R7_w16 := R7_w15.below hbw16 (by omega)
  have G_w16 := Lib.hid (G_w15.out.below hbw16)
  have H_w16 := Lib.hid (H_w15.out.below hbw16)
  have R12_w16 := R12_w15.below hbw16 (by omega)
  clear S_w15 R4_w15 R7_w15 G_w15 H_w15 R12_w15
  go_wp2
  go_ret
  exact ⟨rfl, hBw16⟩
end Go.Proofs.Ytignjjkldmninaa
