/- FnMergeSame: the walk. -/
import Derived.Test.YtignjjkldmninaaDrwD
import Derived.Test.YtignjjkldmninaaMdI
import Derived.Test.YtignjjkldmninaaFillH
import Derived.Test.YtignjjkldmninaaSameDs
namespace Go.Proofs.Ytignjjkldmninaa
set_option linter.unusedVariables false
open Go.RowKit
theorem fillL_get {a b : List Sec} {k : Nat} {x y : Sec} (ha : a[k]? = some x) (hb : b[k]? = some y) : (fillL a b)[k]? = some (fill1 x y) := by
  have gen : ∀ (k : Nat) (a b : List Sec), a[k]? = some x → b[k]? = some y → (fillL a b)[k]? = some (fill1 x y) := by
    intro k
    induction k with
    | zero => intro a b h1 h2; cases a with | nil => simp at h1 | cons p a => cases b with | nil => simp at h2 | cons q b => simp at h1 h2; subst h1 h2; simp [fillL]
    | succ k ih => intro a b h1 h2; cases a with | nil => simp at h1 | cons p a => cases b with | nil => simp at h2 | cons q b => simp at h1 h2; simp [fillL, ih a b h1 h2]
  exact gen k a b ha hb
theorem eqDS_refl (l : List Sec) : eqDS l l = true := by
  induction l with
  | nil => rfl
  | cons a r ih => unfold eqDS; simp [secEq, ih]
theorem sameD_refl (d : Dsc) : sameD d d = true := by
  unfold sameD sameG sameS; rw [if_pos rfl, eqDS_refl]; simp
theorem rep_ok {l : List Dsc} {z : Dsc} {n : Nat} (h : dumpsOk l = true) (hz : l[0]? = some z) (h1 : 1 ≤ n) (h5 : n ≤ 5) : dumpsOk (List.replicate n z) = true := by
  have h2 := (du_mem h hz (List.mem_of_getElem? hz)).1
  rw [du_at (z := z) (by rw [List.getElem?_replicate, if_pos (by omega)]) (by rw [List.length_replicate]; exact h5), List.all_eq_true]
  intro d hd
  obtain ⟨_, rfl⟩ := List.mem_replicate.1 hd
  rw [h2]; simp [sameG]
theorem rep_mdS {l : List Dsc} {z : Dsc} {n : Nat} (h : dumpsOk l = true) (hz : l[0]? = some z) (h1 : 1 ≤ n) : mdS (List.replicate n z) z.secs.length = z.secs := by
  have h2 := (du_mem h hz (List.mem_of_getElem? hz)).1
  unfold discOk at h2
  simp only [Bool.and_eq_true, List.all_eq_true] at h2
  apply List.ext_getElem?
  intro k
  by_cases hk : k < z.secs.length
  · rw [mdS_get hk, List.getElem?_eq_getElem hk]
    have e : colF k (List.replicate n z) = List.replicate n z.secs[k] := by
      unfold colF; rw [List.map_replicate, List.getD_eq_getElem?_getD, List.getElem?_eq_getElem hk]; rfl
    rw [e, mgS_rep (h2.2.2 _ (List.getElem_mem hk)) (by omega)]
  · rw [List.getElem?_eq_none (by rw [mdS_len]; omega), List.getElem?_eq_none (by omega)]
theorem pair_ok {l : List Dsc} {z y : Dsc} (h : dumpsOk l = true) (hz : l[0]? = some z) (hy : y ∈ l) : dumpsOk [z, y] = true := by
  have h1 := du_mem h hz (List.mem_of_getElem? hz)
  have h2 := du_mem h hz hy
  unfold dumpsOk
  simp [h1.1, h2.1, h2.2]
  simp [sameG]
set_option maxHeartbeats 1000000 in
theorem d8at (A : Option Addr) (n c : Nat) (w : World) (h : BytesIn w A n) (hn : n ≤ 1048576) :
    Calls Try.prog 59 #[.slice A n c, .int .i64 0, .int .i64 4] w fun e w' => ∃ r : Nat, r < 4 ∧ e = .returned (.int .i64 (r : Int)) ∧ w = w' := by
  by_cases h1 : 0 < n
  · obtain ⟨b, o, rfl, hb, hc⟩ := h.resolve_left (by omega)
    obtain ⟨x, hx, px⟩ := hc 0 h1
    rw [Nat.add_zero] at px
    by_cases h2 : 1 < n
    · obtain ⟨y, hy, py⟩ := hc 1 h2
      clear hc h
      go_enter Try.func59, Try.ntmps59
      go_wp2
      go_ret
      refine ⟨(256 * x + y) % 4, Nat.mod_lt _ (by omega), ret_int ?_, rfl⟩
      first | rfl | (simp; done) | (push_cast; rfl) | omega
    · clear hc h
      go_enter Try.func59, Try.ntmps59
      go_wp2
      go_ret
      refine ⟨x % 4, Nat.mod_lt _ (by omega), ret_int ?_, rfl⟩
      first | rfl | (simp; done) | (push_cast; rfl) | omega
  · clear h
    go_enter Try.func59, Try.ntmps59
    go_wp2
    go_ret
    exact ⟨0, by omega, rfl, rfl⟩
set_option maxRecDepth 20000 in
set_option maxHeartbeats 8000000 in
theorem walkFnMergeSame (A A' : Option Addr) (n c n' c' : Nat) (w : World) (h : BytesIn w A n) (h' : BytesIn w A' n') (hm : n ≤ maxLen) (hm' : n' ≤ maxLen) :
    Calls Try.prog 14 #[.slice A n c, .slice A' n' c'] w fun e w' => e = .returned (.bool true) ∧ Below w.heap.size w w' := by
  by_cases hlong : 1048576 < n
  · have d1 : decide ((1048576 : Int) < (n : Int)) = true := by rw [decide_eq_true_eq]; omega
    go_enter Try.func14, Try.ntmps14
    go_wp2
    go_ret
    exact ⟨rfl, Below.refl _ _⟩
  have d1 : decide ((1048576 : Int) < (n : Int)) = false := by rw [decide_eq_false_iff_not]; omega
  by_cases hlong' : 1048576 < n'
  · have d2 : decide ((1048576 : Int) < (n' : Int)) = true := by rw [decide_eq_true_eq]; omega
    go_enter Try.func14, Try.ntmps14
    go_wp2
    go_ret
    exact ⟨rfl, Below.refl _ _⟩
  have d2 : decide ((1048576 : Int) < (n' : Int)) = false := by rw [decide_eq_false_iff_not]; omega
  have hn : n ≤ 1048576 := by omega
  have hn' : n' ≤ 1048576 := by omega
  obtain ⟨i1, ji, jz0, jz1, jz2⟩ := info_parts dpc_info
  go_enter Try.func14, Try.ntmps14
  go_wp2_with (fail)
  refine (e8dumps_s A n c _ h hn).mono ?_; rintro e w1 ⟨v, l, rfl, hO, hok, hb1⟩
  obtain ⟨z, hz⟩ := du_first hok
  have h5 := du_len hok
  have hl1 : 1 ≤ l.length := List.length_pos_iff.2 (by rintro rfl; cases hz)
  have hN : z.secs.length ≤ 128 := ok_le (du_mem hok hz (List.mem_of_getElem? hz)).1
  obtain ⟨y, hy⟩ : ∃ y, l[l.length - 1]? = some y := ⟨l[l.length - 1]'(by omega), List.getElem?_eq_getElem (by omega)⟩
  have hym := List.mem_of_getElem? hy
  have hyN : y.secs.length = z.secs.length := du_secs hok hz hym
  have hsec : ∀ d ∈ l, ∀ s ∈ d.secs, s.data.size ≤ maxLen := fun d hd s hs => by
    have h1 := (du_mem hok hz hd).1
    unfold discOk at h1
    simp only [Bool.and_eq_true, List.all_eq_true] at h1
    have h2 := secOk_size (h1.2.2 s hs)
    have h3 := szN_le (geo_parts h1.1).2.2.2
    unfold maxLen; omega
  have hpok := pair_ok hok hz hym
  obtain ⟨Ad, cd, rfl, hA⟩ := hO
  obtain ⟨g, rfl, hgl, hg, hc⟩ := hA.resolve_left (by rintro rfl; simp at hl1)
  obtain ⟨vz, oz, cz⟩ := hc 0 z hz
  obtain ⟨vy, oy, cy⟩ := hc (l.length - 1) y hy
  obtain ⟨Az, czp, rfl, _⟩ := OwnL.shape oz
  obtain ⟨Ay, cyp, rfl, _⟩ := OwnL.shape oy
  have p0 := cz 0 _ rfl
  have p1 := cz 1 _ rfl
  have p2 := cz 2 _ rfl
  have p3 := cz 3 _ rfl
  have p4 := cz 4 _ rfl
  simp only [Nat.zero_mul, Nat.zero_add] at p0 p1 p2 p3 p4
  have q0 := cy 0 _ rfl
  have q1 := cy 1 _ rfl
  have q2 := cy 2 _ rfl
  have q3 := cy 3 _ rfl
  have q4 := cy 4 _ rfl
  simp only [Nat.add_zero] at q0
  have HQ := Lib.hid (And.intro q0 (And.intro q1 (And.intro q2 (And.intro q3 q4))))
  have HOZ := Lib.hid oz
  have HOY := Lib.hid oy
  have HMD : Hid (∀ (k : Nat) (v' : Value) (W : World), 1 ≤ k → k ≤ 5 → DscOwn w.heap.size W v' (List.replicate k z) → Calls Try.prog 54 #[v'] W fun e w' => ∃ A c A1 n1 c1 A2 n2 c2, e = .returned (.tuple #[.agg #[.int .i64 z.cyl, .int .i64 z.heads, .int .i64 z.per, .int .i64 z.size, .slice A z.secs.length c, .slice A1 n1 c1, .slice A2 n2 c2], .int .i64 0]) ∧ SecOwn W.heap.size w' (.slice A z.secs.length c) z.secs ∧ Below W.heap.size W w') := Lib.hid (fun k v' W hk1 hk5 o => by
    have hmem : ∀ d ∈ List.replicate k z, d = z := fun d hd => (List.mem_replicate.1 hd).2
    have h0 := md_i _ _ v' W o (by rw [List.length_replicate]; omega) (fun d hd => by rw [hmem d hd]; omega) (fun d hd => by rw [hmem d hd]; exact hsec z (List.mem_of_getElem? hz))
    rw [mdE_yes (rep_ok hok hz hk1 hk5) (z := z) (by rw [List.getElem?_replicate, if_pos (by omega)])] at h0
    refine h0.mono ?_
    rintro e w' ⟨A, c, A1, c1, A2, c2, rfl, ho, _, hb⟩
    have hS := rep_mdS hok hz hk1
    have o1 := ho.d
    unfold mdM at o1
    simp only at o1
    rw [hS] at o1
    refine ⟨A, c, A1, (mdM (List.replicate k z) z).fr.length, c1, A2, (mdM (List.replicate k z) z).ag.length, c2, ?_, o1, hb⟩
    have hl : (mdM (List.replicate k z) z).d.secs.length = z.secs.length := congrArg List.length hS
    show Ending.returned (.tuple #[.agg #[.int .i64 z.cyl, .int .i64 z.heads, .int .i64 z.per, .int .i64 z.size, .slice A (mdM (List.replicate k z) z).d.secs.length c, .slice A1 (mdM (List.replicate k z) z).fr.length c1, .slice A2 (mdM (List.replicate k z) z).ag.length c2], .int .i64 0]) = _
    rw [hl])
  have HFI : Hid (∀ (Ba Bb : Nat) (va vb : Value) (W : World), SecOwn Ba W va z.secs → SecOwn Bb W vb y.secs → Calls Try.prog 37 #[dscV z va, dscV y vb] W fun e w' => ∃ A c, e = .returned (.tuple #[.agg #[.int .i64 z.cyl, .int .i64 z.heads, .int .i64 z.per, .int .i64 z.size, .slice A z.secs.length c], .int .i64 (fillN z.secs y.secs), .int .i64 0]) ∧ SecOwn W.heap.size w' (.slice A z.secs.length c) (fillL z.secs y.secs) ∧ Below W.heap.size W w') := Lib.hid (fun Ba Bb va vb W oa ob => by
    have h0 := fill_i Ba Bb z y va vb W oa ob (by omega) (by omega) (fun s hs => hsec z (List.mem_of_getElem? hz) s hs) (fun s hs => hsec y hym s hs)
    refine h0.mono ?_
    unfold FillR fillD fillK fillE
    rw [if_pos hpok, if_pos hpok, if_pos hpok]
    rintro e w' ⟨A, c, rfl, ho, hb⟩
    simp only [fillL_len] at ho ⊢
    exact ⟨A, c, rfl, ho, hb⟩)
  have H2 := Lib.hid (h'.below hb1 (Nat.le_refl _))
  have z1 := hb1.size
  have HYN := Lib.hid hyN
  clear hyN hok hz hy hym hsec hpok oz oy cz cy hc hA h h' q0 q1 q2 q3 q4
  go_wp2_with (fail)
  have HB6 : Below w1.heap.size w1 (w1.alloc (.cells #[.int .i64 z.cyl, .int .i64 z.heads, .int .i64 z.per, .int .i64 z.size, .slice Az z.secs.length czp] 39)) := Below.alloc (Below.refl _ _) (Nat.le_refl _) _
  have HR6 : Hid (Row (w1.alloc (.cells #[.int .i64 z.cyl, .int .i64 z.heads, .int .i64 z.per, .int .i64 z.size, .slice Az z.secs.length czp] 39)) w1.heap.size (dscL z (.slice Az z.secs.length czp))) := Lib.hid (Row.alloc w1 _ _)
  have hz6 : w1.heap.size < ((w1.alloc (.cells #[.int .i64 z.cyl, .int .i64 z.heads, .int .i64 z.per, .int .i64 z.size, .slice Az z.secs.length czp] 39))).heap.size := by simp
  refine (d8at A' n' c' _ (H2.out.below HB6 (Nat.le_refl _)) hn').mono ?_; rintro e w2 ⟨r, hr, rfl, hW2⟩
  obtain rfl := hW2
  obtain ⟨HQ0, HQ1, HQ2, HQ3, HQ4⟩ := HQ.out
  have hr3 : (r : Int) ≤ 3 := by omega
  have HQb : Hid (∀ W, Below ((w1.alloc (.cells #[.int .i64 z.cyl, .int .i64 z.heads, .int .i64 z.per, .int .i64 z.size, .slice Az z.secs.length czp] 39))).heap.size (w1.alloc (.cells #[.int .i64 z.cyl, .int .i64 z.heads, .int .i64 z.per, .int .i64 z.size, .slice Az z.secs.length czp] 39)) W → W.cell? ⟨g, (l.length - 1) * 5, none⟩ = some (.int .i64 y.cyl) ∧ W.cell? ⟨g, (l.length - 1) * 5 + 1, none⟩ = some (.int .i64 y.heads) ∧ W.cell? ⟨g, (l.length - 1) * 5 + 2, none⟩ = some (.int .i64 y.per) ∧ W.cell? ⟨g, (l.length - 1) * 5 + 3, none⟩ = some (.int .i64 y.size) ∧ W.cell? ⟨g, (l.length - 1) * 5 + 4, none⟩ = some (.slice Ay y.secs.length cyp)) := Lib.hid (fun W hW => by
    have hb := HB6.trans (hW.mono (Nat.le_of_lt hz6))
    exact ⟨(hb.cell (p := ⟨g, _, none⟩) hg).trans HQ0, (hb.cell (p := ⟨g, _, none⟩) hg).trans HQ1, (hb.cell (p := ⟨g, _, none⟩) hg).trans HQ2, (hb.cell (p := ⟨g, _, none⟩) hg).trans HQ3, (hb.cell (p := ⟨g, _, none⟩) hg).trans HQ4⟩)
  have HZb := Lib.hid (OwnL.below HOZ.out HB6)
  have HYb := Lib.hid (OwnL.below HOY.out HB6)
  have HBb : Hid (Below w.heap.size w (w1.alloc (.cells #[.int .i64 z.cyl, .int .i64 z.heads, .int .i64 z.per, .int .i64 z.size, .slice Az z.secs.length czp] 39))) := Lib.hid (hb1.trans (HB6.mono z1))
  have hwz : w.heap.size ≤ ((w1.alloc (.cells #[.int .i64 z.cyl, .int .i64 z.heads, .int .i64 z.per, .int .i64 z.size, .slice Az z.secs.length czp] 39))).heap.size := HBb.out.size
  have hzlt := lt_of_own HOZ.out
  clear p0 p1 p2 p3 p4 HQ0 HQ1 HQ2 HQ3 HQ4 HQ HOZ HOY H2 hr
  go_upto_region 6 with (fail)
  generalize (w1.alloc (.cells #[.int .i64 z.cyl, .int .i64 z.heads, .int .i64 z.per, .int .i64 z.size, .slice Az z.secs.length czp] 39)) = wb at *
  generalize w1.heap.size = b6 at *
  have HU0 : Hid (OutL w.heap.size (wb.alloc (.cells #[] 39)) (.slice (some ⟨wb.heap.size, 0, none⟩) 0 0) (List.replicate 0 (z, .slice Az z.secs.length czp))) := Lib.hid ⟨OwnL.of_empty wb hwz, fun p hp => by cases hp⟩
  have HJ0 : Hid (Dj (.slice (some ⟨wb.heap.size, 0, none⟩) 0 0) (.slice Az z.secs.length czp)) := Lib.hid (fun b h1 h2 => by simp [Value.ownBlock] at h1; have := (hzlt b h2).2; omega)
  have hb00 : Below wb.heap.size wb (wb.alloc (.cells #[] 39)) := Below.alloc (Below.refl _ _) (Nat.le_refl _) _
  go_wp2_with (fail)
  go_loopw [9, 8] (fun i out wx => ∃ k : Nat, k ≤ r + 1 ∧ i = .int .i64 k ∧ Hid (OutL w.heap.size wx out (List.replicate k (z, .slice Az z.secs.length czp))) ∧ Hid (Dj out (.slice Az z.secs.length czp)) ∧ Below wb.heap.size wb wx ∧ (∀ b, out.ownBlock = some b → wb.heap.size ≤ b)) (fun i _ _ => r + 1 - (intOf i).toNat)
  case atStart => exact ⟨0, by omega, rfl, HU0, HJ0, hb00, fun b hb => by simp [Value.ownBlock] at hb; omega⟩
  case round =>
    clear HU0 HJ0 hb00
    obtain ⟨k, hk, rfl, HU, HJ, hbx, hob⟩ := hrel
    have zx := hbx.size
    by_cases hlt : k < r + 1
    · have dk : decide ((k : Int) < 1 + (r : Int)) = true := by rw [decide_eq_true_eq]; omega
      obtain ⟨k0, k1, k2, k3, k4⟩ := (HR6.out.below hbx hz6).five
      have HU9 := Lib.hid (OutL.chg HU.out (Chg.of_below (B := 0) (E := 0) (Below.alloc (Below.refl wr.heap.size wr) (Nat.le_refl _) (.cells #[.int .i64 z.cyl, .int .i64 z.heads, .int .i64 z.per, .int .i64 z.size, .slice Az z.secs.length czp] 39))) (Nat.zero_le _))
      have hbx9 : Below wb.heap.size wb (wr.alloc (.cells #[.int .i64 z.cyl, .int .i64 z.heads, .int .i64 z.per, .int .i64 z.size, .slice Az z.secs.length czp] 39)) := hbx.alloc zx _
      have HZ9 := Lib.hid (OwnL.below HZb.out hbx9)
      have hl1k : (List.replicate k ((z, .slice Az z.secs.length czp) : Dsc × Value)).length + 1 ≤ 16777216 := by rw [List.length_replicate]; omega
      have hbase : w.heap.size ≤ (wr.alloc (.cells #[.int .i64 z.cyl, .int .i64 z.heads, .int .i64 z.per, .int .i64 z.size, .slice Az z.secs.length czp] 39)).heap.size := Nat.le_trans hwz hbx9.size
      have hone := dpc_one (p := z) HZ9.out
      have hR9 : Row (wr.alloc (.cells #[.int .i64 z.cyl, .int .i64 z.heads, .int .i64 z.per, .int .i64 z.size, .slice Az z.secs.length czp] 39)) wr.heap.size (dscL z (.slice Az z.secs.length czp)) := Row.alloc wr _ _
      have HR9 := Lib.hid hR9
      have HON := Lib.hid hone
      clear hR9 hone
      go_wp2_with (at_builtin; refine wpList_app1at dpc 5 dpc_len _ rfl _ _ _ rfl w.heap.size 39 i1 (.agg #[.int .i64 0, .int .i64 0, .int .i64 0, .int .i64 0, .slice none 0 0]) 56 Try.underlying25 ji jz0 jz1 jz2 rfl (by decide) _ (List.replicate k (z, .slice Az z.secs.length czp)) rfl HU9.out.o _ 1 (z, .slice Az z.secs.length czp) rfl ?_ HON.out hl1k (by decide) hbase ?_; (· intro j u hu; exact HR9.out j u hu); intro v9 w9 how9 hg9 hbl9)
      go_roundw
      case rel => exact ⟨k + 1, by omega, by go_num, Lib.hid (by rw [List.replicate_succ']; exact HU9.out.snoc how9 hg9 hbl9 HZ9.out HJ.out), Lib.hid (HJ.out.new hbl9 (fun b hb => by have := (hzlt b hb).2; have := hbx9.size; omega)), hbx9.grown hg9 hbx9.size (fun q hq => hob q hq), fun b hb => by
        rcases hbl9 with e | e
        · exact hob b (e ▸ hb)
        · rw [hb] at e; injection e with e; have := hbx9.size; omega⟩
      case measure => simp [intOf]; omega
    · obtain rfl : k = r + 1 := by omega
      have dk : decide (((r + 1 : Nat) : Int) < 1 + (r : Int)) = false := by rw [decide_eq_false_iff_not]; omega
      have dk2 : decide ((r : Int) + 1 < 1 + (r : Int)) = false := by rw [decide_eq_false_iff_not]; omega
      have HM := Lib.hid (HMD.out (r + 1) u8 wr (by omega) (by omega) (by have := HU.out.own; rwa [List.map_replicate] at this))
      go_wp2_with (fail)
      refine HM.out.mono ?_; rintro e w3 ⟨Am, cm, A1, n1, c1, A2, n2, c2, rfl, om, hb3⟩
      clear HM HMD HU HJ hob
      have hb3x : Below wb.heap.size wb w3 := hbx.trans (hb3.mono zx)
      have HB10 : Below w3.heap.size w3 (w3.alloc (.cells #[.int .i64 z.cyl, .int .i64 z.heads, .int .i64 z.per, .int .i64 z.size, .slice Am z.secs.length cm, .slice A1 n1 c1, .slice A2 n2 c2] 41)) := Below.alloc (Below.refl _ _) (Nat.le_refl _) _
      have hbx10 : Below wb.heap.size wb (w3.alloc (.cells #[.int .i64 z.cyl, .int .i64 z.heads, .int .i64 z.per, .int .i64 z.size, .slice Am z.secs.length cm, .slice A1 n1 c1, .slice A2 n2 c2] 41)) := hb3x.alloc hb3x.size _
      have HS := Lib.hid (samed_s _ _ z z _ _ (w3.alloc (.cells #[.int .i64 z.cyl, .int .i64 z.heads, .int .i64 z.per, .int .i64 z.size, .slice Am z.secs.length cm, .slice A1 n1 c1, .slice A2 n2 c2] 41)) (OwnL.below om HB10) (OwnL.below HZb.out hbx10) (by omega) (by omega))
      rw [sameD_refl] at HS
      obtain ⟨k0, k1, k2, k3, k4⟩ := (HR6.out.below hbx10 hz6).five
      clear om
      go_wp2_with (fail)
      refine HS.out.mono ?_; rintro e w4 ⟨rfl, hb4⟩
      have hb4x : Below wb.heap.size wb w4 := hbx10.trans (hb4.mono hbx10.size)
      clear HS k0 k1 k2 k3 k4 hb3 hb4 HB10 hb3x hbx10
      obtain ⟨q0, q1, q2, q3, q4⟩ := HQb.out w4 hb4x
      have hli : (l.length : Int) - 1 = ((l.length - 1 : Nat) : Int) := by omega
      have hll : l.length - 1 < l.length := by omega
      have HB12 : Below w4.heap.size w4 (w4.alloc (.cells #[.int .i64 y.cyl, .int .i64 y.heads, .int .i64 y.per, .int .i64 y.size, .slice Ay y.secs.length cyp] 39)) := Below.alloc (Below.refl _ _) (Nat.le_refl _) _
      have HR12 : Hid (Row (w4.alloc (.cells #[.int .i64 y.cyl, .int .i64 y.heads, .int .i64 y.per, .int .i64 y.size, .slice Ay y.secs.length cyp] 39)) w4.heap.size (dscL y (.slice Ay y.secs.length cyp))) := Lib.hid (Row.alloc w4 _ _)
      have hz12 : w4.heap.size < ((w4.alloc (.cells #[.int .i64 y.cyl, .int .i64 y.heads, .int .i64 y.per, .int .i64 y.size, .slice Ay y.secs.length cyp] 39))).heap.size := by simp
      have hb12x : Below wb.heap.size wb (w4.alloc (.cells #[.int .i64 y.cyl, .int .i64 y.heads, .int .i64 y.per, .int .i64 y.size, .slice Ay y.secs.length cyp] 39)) := hb4x.alloc hb4x.size _
      have HF := Lib.hid (HFI.out _ _ _ _ (w4.alloc (.cells #[.int .i64 y.cyl, .int .i64 y.heads, .int .i64 y.per, .int .i64 y.size, .slice Ay y.secs.length cyp] 39)) (OwnL.below HZb.out hb12x) (OwnL.below HYb.out hb12x))
      obtain ⟨k0, k1, k2, k3, k4⟩ := (HR6.out.below hb12x hz6).five
      go_wp2_with (fail)
      refine HF.out.mono ?_; rintro e w5 ⟨Af, cf, rfl, of5, hb5⟩
      have hb5x := hb12x.trans (hb5.mono hb12x.size)
      have HB13 : Below w5.heap.size w5 (w5.alloc (.cells #[.int .i64 z.cyl, .int .i64 z.heads, .int .i64 z.per, .int .i64 z.size, .slice Af z.secs.length cf] 39)) := Below.alloc (Below.refl _ _) (Nat.le_refl _) _
      have HR13 : Hid (Row (w5.alloc (.cells #[.int .i64 z.cyl, .int .i64 z.heads, .int .i64 z.per, .int .i64 z.size, .slice Af z.secs.length cf] 39)) w5.heap.size (dscL z (.slice Af z.secs.length cf))) := Lib.hid (Row.alloc w5 _ _)
      have hz13 : w5.heap.size < ((w5.alloc (.cells #[.int .i64 z.cyl, .int .i64 z.heads, .int .i64 z.per, .int .i64 z.size, .slice Af z.secs.length cf] 39))).heap.size := by simp
      have hb13x : Below wb.heap.size wb (w5.alloc (.cells #[.int .i64 z.cyl, .int .i64 z.heads, .int .i64 z.per, .int .i64 z.size, .slice Af z.secs.length cf] 39)) := hb5x.alloc hb5x.size _
      have HR12b := Lib.hid ((HR12.out.below hb5 hz12).below HB13 (Nat.lt_of_lt_of_le hz12 hb5.size))
      have hz12b : w4.heap.size < ((w5.alloc (.cells #[.int .i64 z.cyl, .int .i64 z.heads, .int .i64 z.per, .int .i64 z.size, .slice Af z.secs.length cf] 39))).heap.size := Nat.lt_trans (Nat.lt_of_lt_of_le hz12 hb5.size) hz13
      have HR6b := Lib.hid (HR6.out.below hb13x hz6)
      have hz6b : b6 < ((w5.alloc (.cells #[.int .i64 z.cyl, .int .i64 z.heads, .int .i64 z.per, .int .i64 z.size, .slice Af z.secs.length cf] 39))).heap.size := Nat.lt_of_lt_of_le hz6 hb13x.size
      have HOZ := Lib.hid (OwnL.below HZb.out hb13x)
      have HOY := Lib.hid (OwnL.below HYb.out hb13x)
      have HOF := Lib.hid (OwnL.below of5 HB13)
      have HBB := Lib.hid (HBb.out.trans (hb13x.mono hwz))
      have hww : w.heap.size ≤ ((w5.alloc (.cells #[.int .i64 z.cyl, .int .i64 z.heads, .int .i64 z.per, .int .i64 z.size, .slice Af z.secs.length cf] 39))).heap.size := HBB.out.size
      clear k0 k1 k2 k3 k4 q0 q1 q2 q3 q4 HF HFI HB12 HR12 hz12 hb12x of5 hb5 hb5x HB13 hb13x HR6 hz6 HZb HYb HBb HQb hb4x
      go_upto_region 16 with (fail)
      generalize (w5.alloc (.cells #[.int .i64 z.cyl, .int .i64 z.heads, .int .i64 z.per, .int .i64 z.size, .slice Af z.secs.length cf] 39)) = wc at *
      generalize w5.heap.size = b13 at *
      generalize w4.heap.size = b12 at *
      obtain ⟨m0, m1, m2, m3, m4⟩ := HR13.out.five
      obtain ⟨l0, l1', l2, l3, l4⟩ := HR6b.out.five
      go_wp2_with (fail)
      go_loopw [17, 16] (fun i x wr => ∃ (k : Nat) (N : Int), k ≤ z.secs.length ∧ i = .int .i64 k ∧ x = .int .i64 N ∧ (0 ≤ N ∧ N ≤ k) ∧ Below wc.heap.size wc wr ∧ Hid (fillN z.secs y.secs = N + fillN (z.secs.drop k) (y.secs.drop k))) (fun i _ _ => z.secs.length - (intOf i).toNat)
      case atStart => exact ⟨0, 0, by omega, rfl, rfl, by omega, Below.refl _ _, Lib.hid (by simp)⟩
      case round =>
        clear m0 m1 m2 m3 m4 l0 l1' l2 l3 l4
        obtain ⟨k, N, hk, rfl, rfl, hNk, hbk, HN⟩ := hrel
        have zk := hbk.size
        have l4 := HR6b.out.below hbk hz6b 4 _ rfl
        by_cases hlt : k < z.secs.length
        · obtain ⟨dx, hdx⟩ : ∃ x, z.secs[k]? = some x := ⟨z.secs[k], List.getElem?_eq_getElem hlt⟩
          obtain ⟨bx, hbx'⟩ : ∃ x, y.secs[k]? = some x := ⟨y.secs[k]'(by have := HYN.out; omega), List.getElem?_eq_getElem (by have := HYN.out; omega)⟩
          have hfx := fillL_get hdx hbx'
          have HNk := Lib.hid (fillN_drop hdx hbx')
          have oz := OwnL.below HOZ.out hbk
          have oy := OwnL.below HOY.out hbk
          have of := OwnL.below HOF.out hbk
          obtain ⟨gz, rfl⟩ : ∃ gz, Az = some ⟨gz, 0, none⟩ := by
            obtain ⟨A0, c0, h0, h1⟩ := OwnL.shape oz
            injection h0 with h0 _ _
            obtain ⟨g0, h4, _⟩ := h1.resolve_left (by intro he; rw [he] at hlt; simp at hlt)
            exact ⟨g0, h0.trans h4⟩
          obtain ⟨gy, rfl⟩ : ∃ gy, Ay = some ⟨gy, 0, none⟩ := by
            obtain ⟨A0, c0, h0, h1⟩ := OwnL.shape oy
            injection h0 with h0 _ _
            obtain ⟨g0, h4, _⟩ := h1.resolve_left (by intro he; rw [he] at hbx'; simp at hbx')
            exact ⟨g0, h0.trans h4⟩
          obtain ⟨gf, rfl⟩ : ∃ gf, Af = some ⟨gf, 0, none⟩ := by
            obtain ⟨A0, c0, h0, h1⟩ := OwnL.shape of
            injection h0 with h0 _ _
            obtain ⟨g0, h4, _⟩ := h1.resolve_left (by intro he; rw [he] at hfx; simp at hfx)
            exact ⟨g0, h0.trans h4⟩
          have y4 := HR12b.out.below hbk hz12b 4 _ rfl
          have f4 := HR13.out.below hbk hz13 4 _ rfl
          have z0 := OwnL.at1 (j := 0) Sec.len oz hdx rfl
          have z1' := OwnL.at1 (j := 1) Sec.len oz hdx rfl
          have y0 := OwnL.at1 (j := 0) Sec.len oy hbx' rfl
          have y1 := OwnL.at1 (j := 1) Sec.len oy hbx' rfl
          have f0 := OwnL.at1 (j := 0) Sec.len of hfx rfl
          have f1 := OwnL.at1 (j := 1) Sec.len of hfx rfl
          simp only [Nat.add_zero] at z0 y0 f0
          have hky : k < y.secs.length := by have := HYN.out; omega
          clear hdx hbx' hfx oz oy of
          by_cases hc : dx.state ≠ 1 ∧ bx.state = 1
          · have e1 : fill1 dx bx = bx := by unfold fill1; rw [if_pos hc]
            have e2 : fillC dx bx = 1 := by unfold fillC; rw [if_pos hc]
            rw [e1] at f0 f1
            rw [e2] at HNk
            have n1 : (bx.state == dx.state) = false := by rw [beq_eq_false_iff_ne]; intro e; exact hc.1 (e ▸ hc.2)
            have n2 : (dx.state == 1) = false := by simpa using hc.1
            have n3 : (bx.state != 1) = false := by simpa using hc.2
            have HN' : Hid (fillN z.secs y.secs = N + 1 + fillN (z.secs.drop (k + 1)) (y.secs.drop (k + 1))) := Lib.hid (by rw [HN.out, HNk.out]; omega)
            clear hc e1 e2 HNk HN
            have w1' : ∀ x : Wb wr, x.1.cell? ⟨b6, 4, none⟩ = some (.slice (some ⟨gz, 0, none⟩) z.secs.length czp) := fun x => Wb.cell l4 x
            have w2' : ∀ x : Wb wr, x.1.cell? ⟨b13, 4, none⟩ = some (.slice (some ⟨gf, 0, none⟩) z.secs.length cf) := fun x => Wb.cell f4 x
            have w3' : ∀ x : Wb wr, x.1.cell? ⟨gz, k * 2, none⟩ = some (.string dx.data) := fun x => Wb.cell z0 x
            have w4' : ∀ x : Wb wr, x.1.cell? ⟨gz, k * 2 + 1, none⟩ = some (.int .i64 dx.state) := fun x => Wb.cell z1' x
            have w5' : ∀ x : Wb wr, x.1.cell? ⟨gf, k * 2, none⟩ = some (.string bx.data) := fun x => Wb.cell f0 x
            have w6' : ∀ x : Wb wr, x.1.cell? ⟨gf, k * 2 + 1, none⟩ = some (.int .i64 bx.state) := fun x => Wb.cell f1 x
            go_wp2_with (fail)
            refine wp_region_wb (by kernel_rfl) (by kernel_rfl) ?_
            repeat (go_big_quiet_step (fail))
            refine wpQuiet_nil ?_; intro w6 hw'; obtain ⟨⟨wq, hb6⟩, hw''⟩ := hw'; subst hw''
            clear w1' w2' w3' w4' w5' w6'
            have hbk6 := hbk.trans (hb6.mono zk)
            obtain ⟨⟩ : True := trivial
            have wl4 : ∀ x : Wb w6, x.1.cell? ⟨b6, 4, none⟩ = some (.slice (some ⟨gz, 0, none⟩) z.secs.length czp) := fun x => Wb.cell ((hb6.cell (p := ⟨b6, 4, none⟩) (Nat.lt_of_lt_of_le hz6b zk)).trans l4) x
            have wf4 : ∀ x : Wb w6, x.1.cell? ⟨b13, 4, none⟩ = some (.slice (some ⟨gf, 0, none⟩) z.secs.length cf) := fun x => Wb.cell ((hb6.cell (p := ⟨b13, 4, none⟩) (Nat.lt_of_lt_of_le hz13 zk)).trans f4) x
            have wy4 : ∀ x : Wb w6, x.1.cell? ⟨b12, 4, none⟩ = some (.slice (some ⟨gy, 0, none⟩) y.secs.length cyp) := fun x => Wb.cell ((hb6.cell (p := ⟨b12, 4, none⟩) (Nat.lt_of_lt_of_le hz12b zk)).trans y4) x
            have bd := fun (gg o : Nat) (u : Value) (hu : wr.cell? ⟨gg, o, none⟩ = some u) => (hb6.cell (p := ⟨gg, o, none⟩) (World.block_lt_of_cell? wr _ hu)).trans hu
            have wz1 : ∀ x : Wb w6, x.1.cell? ⟨gz, k * 2 + 1, none⟩ = some (.int .i64 dx.state) := fun x => Wb.cell (bd _ _ _ z1') x
            have wy0 : ∀ x : Wb w6, x.1.cell? ⟨gy, k * 2, none⟩ = some (.string bx.data) := fun x => Wb.cell (bd _ _ _ y0) x
            have wy1 : ∀ x : Wb w6, x.1.cell? ⟨gy, k * 2 + 1, none⟩ = some (.int .i64 bx.state) := fun x => Wb.cell (bd _ _ _ y1) x
            have wf0 : ∀ x : Wb w6, x.1.cell? ⟨gf, k * 2, none⟩ = some (.string bx.data) := fun x => Wb.cell (bd _ _ _ f0) x
            have wf1 : ∀ x : Wb w6, x.1.cell? ⟨gf, k * 2 + 1, none⟩ = some (.int .i64 bx.state) := fun x => Wb.cell (bd _ _ _ f1) x
            clear bd l4 f4 y4 z0 z1' y0 y1 f0 f1
            go_wp2_with (fail)
            refine wp_region_wb (by kernel_rfl) (by kernel_rfl) ?_
            repeat (go_big_quiet_step (fail))
            refine wpQuiet_nil ?_; intro w7 hw'; obtain ⟨⟨wq, hb7⟩, hw''⟩ := hw'; subst hw''
            go_wp2
            go_roundw
            case rel => exact ⟨k + 1, N + 1, by omega, by go_num, by go_num, by omega, hbk6.trans (hb7.mono hbk6.size), HN'⟩
            case measure => simp [intOf]; omega
          · have e1 : fill1 dx bx = dx := by unfold fill1; rw [if_neg hc]
            have e2 : fillC dx bx = 0 := by unfold fillC; rw [if_neg hc]
            rw [e1] at f0 f1
            rw [e2] at HNk
            have HN' : Hid (fillN z.secs y.secs = N + fillN (z.secs.drop (k + 1)) (y.secs.drop (k + 1))) := Lib.hid (by rw [HN.out, HNk.out]; omega)
            have hcc : (dx.state != 1) = false ∨ ((dx.state != 1) = true ∧ (bx.state == 1) = false) := by
              by_cases hd : dx.state = 1
              · left; simpa using hd
              · right; exact ⟨by simpa using hd, by rw [beq_eq_false_iff_ne]; intro e; exact hc ⟨hd, e⟩⟩
            clear hc e1 e2 HNk HN
            have w1' : ∀ x : Wb wr, x.1.cell? ⟨b6, 4, none⟩ = some (.slice (some ⟨gz, 0, none⟩) z.secs.length czp) := fun x => Wb.cell l4 x
            have w2' : ∀ x : Wb wr, x.1.cell? ⟨b13, 4, none⟩ = some (.slice (some ⟨gf, 0, none⟩) z.secs.length cf) := fun x => Wb.cell f4 x
            have w3' : ∀ x : Wb wr, x.1.cell? ⟨gz, k * 2, none⟩ = some (.string dx.data) := fun x => Wb.cell z0 x
            have w4' : ∀ x : Wb wr, x.1.cell? ⟨gz, k * 2 + 1, none⟩ = some (.int .i64 dx.state) := fun x => Wb.cell z1' x
            have w5' : ∀ x : Wb wr, x.1.cell? ⟨gf, k * 2, none⟩ = some (.string dx.data) := fun x => Wb.cell f0 x
            have w6' : ∀ x : Wb wr, x.1.cell? ⟨gf, k * 2 + 1, none⟩ = some (.int .i64 dx.state) := fun x => Wb.cell f1 x
            go_wp2_with (fail)
            refine wp_region_wb (by kernel_rfl) (by kernel_rfl) ?_
            repeat (go_big_quiet_step (fail))
            refine wpQuiet_nil ?_; intro w6 hw'; obtain ⟨⟨wq, hb6⟩, hw''⟩ := hw'; subst hw''
            clear w1' w2' w3' w4' w5' w6'
            have hbk6 := hbk.trans (hb6.mono zk)
            have bd := fun (gg o : Nat) (u : Value) (hu : wr.cell? ⟨gg, o, none⟩ = some u) => (hb6.cell (p := ⟨gg, o, none⟩) (World.block_lt_of_cell? wr _ hu)).trans hu
            have x1 := bd _ _ _ l4
            have x2 := bd _ _ _ y4
            have x3 := bd _ _ _ z1'
            have x4 := bd _ _ _ y1
            clear bd l4 f4 y4 z0 z1' y0 y1 f0 f1
            rcases hcc with q1 | ⟨q1, q2⟩
            all_goals
              go_wp2
              go_roundw
              case rel => exact ⟨k + 1, N, by omega, by go_num, rfl, by omega, hbk6, HN'⟩
              case measure => simp [intOf]; omega
        · obtain rfl : k = z.secs.length := by omega
          have e : fillN z.secs y.secs = N := by
            rw [HN.out, List.drop_of_length_le (Nat.le_refl _)]
            show N + fillN [] _ = N
            simp [fillN]
          rw [e]
          clear HN e
          go_wp2
          go_ret
          exact ⟨by simp, HBB.out.trans (hbk.mono hww)⟩
end Go.Proofs.Ytignjjkldmninaa
