/- RestoreTwo of the reference: the walk. -/
import Derived.Test.YtfcdienphillnaaGreatLr25
namespace Go.Proofs.YtfcdienphillnaaGreat
set_option linter.unusedVariables false
set_option linter.unusedSimpArgs false
open Go.RowKit
theorem zer_left {n : Nat} {L : List Int} {bl : List ByteArray} {k : Nat} (h : hasB L k = false) : (zerL n L bl)[k]? = (leftG L bl)[k]? := by
  by_cases hk : k < bl.length
  · rw [zer_get (List.getElem?_eq_getElem hk), left_get (List.getElem?_eq_getElem hk), h]; rfl
  · rw [List.getElem?_eq_none (by rw [zer_len]; omega), List.getElem?_eq_none (by rw [left_len]; omega)]
theorem zer_nil (n : Nat) (bl : List ByteArray) : zerL n [] bl = leftG [] bl := List.ext_getElem? fun k => zer_left (by simp [hasB])
theorem zer_set1 (n m : Nat) (bl : List ByteArray) (S : ByteArray) : (zerL n [(m : Int)] bl).set m S = (leftG [(m : Int)] bl).set m S := by
  refine List.ext_getElem? fun k => ?_
  rw [List.getElem?_set, List.getElem?_set, zer_len, left_len]
  by_cases h : m = k
  · rw [if_pos h, if_pos h]
  · rw [if_neg h, if_neg h]
    exact zer_left (by simp [hasB]; omega)
theorem zer_set2 (n m k : Nat) (bl : List ByteArray) (S T : ByteArray) : ((zerL n [(m : Int), (k : Int)] bl).set m S).set k T = ((leftG [(m : Int), (k : Int)] bl).set m S).set k T := by
  refine List.ext_getElem? fun j => ?_
  simp only [List.getElem?_set, List.length_set, zer_len, left_len]
  by_cases h : k = j
  · rw [if_pos h, if_pos h]
  · rw [if_neg h, if_neg h]
    by_cases h' : m = j
    · rw [if_pos h', if_pos h']
    · rw [if_neg h', if_neg h']
      exact zer_left (by simp [hasB]; omega)
theorem xorN_comm (a b : List Nat) : xorN a b = xorN b a := by
  unfold xorN
  rw [List.zipWith_comm]
  congr 1; funext x y; exact Nat.xor_comm _ _
theorem plus_z {n f : Nat} {b : List Nat} (hb : b.length = n) : plusN (List.replicate n 0) f b = scN f b := by
  refine List.ext_getElem (by simp [plusN, scN, hb]) fun k h1 h2 => ?_
  simp [plusN, scN]
set_option maxRecDepth 20000 in
set_option maxHeartbeats 16000000 in
theorem r2_s (B : Nat) (bl : List ByteArray) (L : List Int) (p q : ByteArray) (v vl : Value) (w : World) (h : StringL B w v bl) (hl : IntsAt w vl L) (hn : bl.length ≤ 1048576) (hL : L.length ≤ 1048576) (hp : p.size ≤ 1048576) (hq : q.size ≤ 1048576) :
    Calls Tryz.prog 142 #[v, vl, .string p, .string q] w fun e w' => RStringS.retI w (r2E bl L p q).1 (r2E bl L p q).2 e w' := by
  have HO := Lib.hid h
  have HRI := Lib.hid (rises_s L vl 0 ((bl.length : Int) - 1) w hl (by omega))
  have HIA := Lib.hid (show ∀ w', Below w.heap.size w w' → IntsAt w' vl L from fun w' hb => by
    obtain ⟨A', c', rfl, hA'⟩ := hl
    refine ⟨_, _, rfl, hA'.imp id ?_⟩
    rintro ⟨g, rfl, hg, hc⟩
    exact ⟨g, rfl, Nat.lt_of_lt_of_le hg hb.size, fun k x hk => (hb.cell (p := ⟨g, k, none⟩) hg).trans (hc k x hk)⟩)
  obtain ⟨A, c, rfl, _⟩ := h.shape
  obtain ⟨Al, cl, rfl, hAl⟩ := hl
  have HAL := Lib.hid (show ∀ k x, L[k]? = some x → ∃ g, Al = some ⟨g, 0, none⟩ ∧ g < w.heap.size ∧ w.cell? ⟨g, k, none⟩ = some (.int .i64 x) from fun k x hk => by
    obtain ⟨g, h1, h2, h3⟩ := hAl.resolve_left (by rintro rfl; simp at hk)
    exact ⟨g, h1, h2, h3 k x hk⟩)
  clear h hAl
  cases hri : risesB 0 ((bl.length : Int) - 1) L
  · have HF := Lib.hid (r2_2 (p := p) (q := q) hri)
    rw [hri] at HRI
    go_enter Tryz.func142, Tryz.ntmps142
    go_wp2_with (fail)
    refine HRI.out.mono ?_; rintro e w1 ⟨rfl, hb1⟩
    go_wp2
    exact bodyPost_ret (v := .tuple #[.slice none 0 0, .int .i64 2]) (by simp [results, Tryz.results142, go_sem] <;> rfl) rfl ⟨_, by rw [HF.out], by rw [HF.out]; exact ⟨OwnL.of_nil, by simp [Value.ownBlock]⟩, hb1⟩
  · rw [hri] at HRI
    have HMEM := Lib.hid (rises_mem hri)
    have hSK : szS bl L [p, q] = if bl.length = 0 then 0 else rK bl L p q := szS_K _ _ _
    have HSZ := Lib.hid (fun (w1 : World) (hb1 : Below w.heap.size w w1) => size_s bl [p, q] L (.slice A bl.length c) (.slice Al L.length cl) (.slice (some ⟨w1.heap.size, 0, none⟩) 2 2) (w1.alloc (.cells #[.string p, .string q] 9)) (strL_own (OwnL.below HO.out (Below.alloc hb1 hb1.size _))) (HIA.out _ (Below.alloc hb1 hb1.size _))
      ⟨_, _, rfl, .inr ⟨w1.heap.size, rfl, by simp, fun k s hk => by
        match k, hk with
        | 0, hk => (obtain rfl : p = s := by simpa using hk); simp
        | 1, hk => (obtain rfl : q = s := by simpa using hk); simp
        | k + 2, hk => simp at hk⟩⟩ hn hL (by simp))
    by_cases hz : rK bl L p q = 0 ∨ bl.length = 0
    · have HF := Lib.hid (r2_1 (p := p) (q := q) hri hz)
      rw [show szS bl L [p, q] = 0 from by rw [hSK]; split; rfl; exact hz.resolve_right (by assumption)] at HSZ
      clear hz hSK
      go_enter Tryz.func142, Tryz.ntmps142
      go_wp2_with (fail)
      refine HRI.out.mono ?_; rintro e w1 ⟨rfl, hb1⟩
      have z1 := hb1.size
      go_wp2_with (fail)
      refine (HSZ.out w1 hb1).mono ?_; rintro e w2 ⟨rfl, rfl⟩
      go_wp2
      exact bodyPost_ret (v := .tuple #[.slice none 0 0, .int .i64 1]) (by simp [results, Tryz.results142, go_sem] <;> rfl) rfl ⟨_, by rw [HF.out], by rw [HF.out]; exact ⟨OwnL.of_nil, by simp [Value.ownBlock]⟩, Below.alloc hb1 z1 _⟩
    · have hz1 : rK bl L p q ≠ 0 := fun h => hz (.inl h)
      have HG := Lib.hid (grp (p := p) (q := q) hz1)
      have H10 := Lib.hid (fun h2 => r2_10 (p := p) (q := q) hri hz h2)
      have H0 := Lib.hid (fun h2 => r2_0 (p := p) (q := q) hri hz h2)
      have hcd : cntL L p q = L.length + e1 p + e1 q := rfl
      rw [show szS bl L [p, q] = rK bl L p q from by rw [hSK]; split; exact absurd (by assumption) (fun h => hz (.inr h)); rfl] at HSZ
      have hn64 := HG.out.n2
      have HPL := par_left (bl := bl) (mo := [p, q]) (L := L) hz1 HG.out.all
      have hzs := zer_sizes HG.out.all
      have hMK := fun (v : Value) (w' : World) (hs : StrL w' v (zerL (rK bl L p q) L bl)) => make_s (zerL (rK bl L p q) L bl) (rK bl L p q) v w' hs (by rw [zer_len]; omega) hzs (by omega) (by omega)
      rw [HPL] at hMK
      have HMK := Lib.hid (show ∀ (v : Value) (w' : World), StrL w' v (zerL (rK bl L p q) L bl) → Calls Tryz.prog 165 #[v, .int .i64 (rK bl L p q)] w' fun e w'' => e = .returned (.tuple #[.slice (some ⟨w'.heap.size, 0, none⟩) (rK bl L p q) (rK bl L p q), .slice (some ⟨w'.heap.size + 1, 0, none⟩) (rK bl L p q) (rK bl L p q)]) ∧ Buf w'' w'.heap.size (rX bl L p q) ∧ Buf w'' (w'.heap.size + 1) (rY bl L p q) ∧ Below w'.heap.size w' w'' ∧ w'.heap.size + 2 ≤ w''.heap.size from hMK)
      have HLS := Lib.hid (fun (w1 : World) (hb1 : Below w.heap.size w w1) => left_s bl L (rK bl L p q) (.slice A bl.length c) (.slice Al L.length cl) (w1.alloc (.cells #[.string p, .string q] 9)) (strL_own (OwnL.below HO.out (Below.alloc hb1 hb1.size _))) (HIA.out _ (Below.alloc hb1 hb1.size _)) hn hL (by omega))
      obtain ⟨xl1, xl2⟩ := HG.out.len
      obtain ⟨xt1, xt2⟩ := HG.out.lt
      have HGP := Lib.hid (fun h => HG.out.p h)
      have HGQ := Lib.hid (fun h => HG.out.q h)
      have hzl := zer_len (rK bl L p q) L bl
      have HZ0 := Lib.hid (zer_nil (rK bl L p q) bl)
      have HZ1 := Lib.hid (fun m => zer_set1 (rK bl L p q) m bl)
      have HZ2 := Lib.hid (fun m k => zer_set2 (rK bl L p q) m k bl)
      generalize rX bl L p q = X at *
      generalize rY bl L p q = Y at *
      generalize hKn : rK bl L p q = n at *
      have HXT := Lib.hid xt1
      have HYT := Lib.hid xt2
      have hd : ((n : Int) == 0) = false := by rw [beq_eq_false_iff_ne]; omega
      clear hz hSK HPL hzs hMK HG xt1 xt2 hKn
      have hep : e1 p ≤ 1 := by unfold e1; split <;> omega
      have heq : e1 q ≤ 1 := by unfold e1; split <;> omega
      cases hpe : p.toList.isEmpty
      · cases hqe : q.toList.isEmpty
        · have he1 := e1_no hpe
          have he2 := e1_no hqe
          have hcl : cntL L p q = L.length + 0 := by rw [hcd]; omega
          by_cases h2 : 2 < cntL L p q
          · have HF := Lib.hid (H10.out h2)
            have hd3 : 2 < (L.length : Int) + 0 := by omega
            have hd4 : 2 < L.length + 0 := by omega
            clear h2 hcl hcd
            go_enter Tryz.func142, Tryz.ntmps142
            go_wp2_with (fail)
            refine HRI.out.mono ?_; rintro e w1 ⟨rfl, hb1⟩
            have z1 := hb1.size
            go_wp2_with (fail)
            refine (HSZ.out w1 hb1).mono ?_; rintro e w2 ⟨rfl, rfl⟩
            go_wp2
            exact bodyPost_ret (v := .tuple #[.slice none 0 0, .int .i64 10]) (by simp [results, Tryz.results142, go_sem] <;> rfl) rfl ⟨_, by rw [HF.out], by rw [HF.out]; exact ⟨OwnL.of_nil, by simp [Value.ownBlock]⟩, Below.alloc hb1 z1 _⟩
          · have HF := Lib.hid (H0.out h2)
            have hd3 : ¬ 2 < (L.length : Int) + 0 := by omega
            have hd4 : ¬ 2 < L.length + 0 := by omega
            have hLe : L.length ≤ 2 := by omega
            clear h2 hcl hcd
            have hp0 : p.size ≠ 0 := fun h0 => by rw [emp_yesP h0] at hpe; cases hpe
            have hq0 : q.size ≠ 0 := fun h0 => by rw [emp_yesP h0] at hqe; cases hqe
            go_enter Tryz.func142, Tryz.ntmps142
            go_wp2_with (fail)
            refine HRI.out.mono ?_; rintro e w1 ⟨rfl, hb1⟩
            have z1 := hb1.size
            go_wp2_with (fail)
            refine (HSZ.out w1 hb1).mono ?_; rintro e w2 ⟨rfl, rfl⟩
            go_wp2_with (fail)
            refine (HLS.out w1 hb1).mono ?_; rintro e w3 ⟨v3, rfl, o3, hb3⟩
            have z3 := hb3.size
            have B3 : Below w.heap.size w w3 := (Below.alloc hb1 z1 _).trans (hb3.mono (by simp; omega))
            have zw3 := B3.size
            have HM2 := Lib.hid (HMK.out v3 w3 (strL_own o3))
            have HO3 := Lib.hid o3
            obtain ⟨A3, c3, hv3, hA3⟩ := OwnL.shape o3
            rw [hzl] at hv3
            subst hv3
            clear o3
            go_wp2_with (fail)
            refine HM2.out.mono ?_; rintro e w4 ⟨rfl, hX4, hY4, hb4, hz4⟩
            have b34 : Below w3.heap.size w3 w4 := hb4
            have hpn := HGP.out hp0
            go_wp2_with (fail)
            refine ((quiet_plus w3.heap.size n 1 n X p xl1 (by omega) (by omega) (by omega) HXT.out).out w4 (by omega) hX4).mono ?_; rintro e w5 ⟨rfl, hX5, hc5, hs5⟩
            have hY5 := hY4.chg hc5 (by omega) (.inl (by omega))
            have b35 : Below w3.heap.size w3 w5 := Chg.below b34 hc5 (Nat.le_refl _) (Nat.le_refl _)
            have hs5' : w3.heap.size + 2 ≤ w5.heap.size := by omega
            clear hs5
            rw [show plusN X 1 (bts p) = xorN X (bts p) from plus1] at hX5
            have al5 : (xorN X (bts p)).length = n := by rw [xorN_len (by rw [bts_len]; omega)]; exact xl1
            have at5 : ∀ x ∈ xorN X (bts p), x < 256 := xorN_lt HXT.out bts_lt
            have hqn := HGQ.out hq0
            go_wp2_with (fail)
            refine ((quiet_plus (w3.heap.size + 1) n 1 n Y q xl2 (by omega) (by omega) (by omega) HYT.out).out w5 (by omega) hY5).mono ?_; rintro e w6 ⟨rfl, hY6, hc6, hs6⟩
            have hX6 := hX5.chg hc6 (by omega) (.inr (by omega))
            have b36 : Below w3.heap.size w3 w6 := Chg.below b35 hc6 (by omega) (Nat.le_refl _)
            have hs6' : w3.heap.size + 2 ≤ w6.heap.size := by omega
            clear hs6
            rw [show plusN Y 1 (bts q) = xorN Y (bts q) from plus1] at hY6
            have bl6 : (xorN Y (bts q)).length = n := by rw [xorN_len (by rw [bts_len]; omega)]; exact xl2
            have bt6 : ∀ x ∈ xorN Y (bts q), x < 256 := xorN_lt HYT.out bts_lt
            have B6 : Below w.heap.size w w6 := B3.trans (b36.mono zw3)
            have O6 := Lib.hid (OwnL.below HO3.out b36)
            have zg : w3.heap.size + 2 ≤ w6.heap.size := by omega
            have hgl := fun k x (hk : L[k]? = some x) => HAL.out k x hk
            have hme := HMEM.out
            have hzl3 := hzl
            rcases L with _ | ⟨i, _ | ⟨j, _ | ⟨j2, r⟩⟩⟩
            · rw [HZ0.out] at O6
              go_wp2
              exact bodyPost_ret (v := .tuple #[.slice A3 bl.length c3, .int .i64 0]) (by simp [results, Tryz.results142, go_sem] <;> rfl) rfl (fin2 O6.out (by simp; omega) B6 (by rw [HF.out]; rfl))
            · obtain ⟨gl, rfl, hgl1, hgl2⟩ := hgl 0 i rfl
              obtain ⟨m1, m2⟩ := hme i List.mem_cons_self
              obtain ⟨m, rfl⟩ : ∃ m : Nat, i = (m : Int) := ⟨i.toNat, by omega⟩
              have hm : m < bl.length := by omega
              obtain ⟨g3, rfl, hg3, hg3'⟩ := hA3.resolve_left (by intro h0; rw [h0] at hzl3; simp at hzl3; omega)
              obtain ⟨y, hy⟩ : ∃ y, (zerL n [(m : Int)] bl)[m]? = some y := ⟨_, List.getElem?_eq_getElem (by rw [hzl3]; exact hm)⟩
              have hg3w : w.heap.size ≤ g3 := by simp at hg3; omega
              have hZ := HZ1.out m
              clear hme hgl hA3
              have HSET := Lib.hid (StringL.set (w := w6.drew) (k := m) (OwnL.below O6.out ((Qt.refl w6).drew.below _)) hzl3 (by rw [hzl3]; exact hm) (strN (xorN X (bts p))))
              have B7 : Below w.heap.size w w6.drew := B6.drew
              have pl7 : w6.drew.cell? ⟨gl, 0, none⟩ = some (.int .i64 (m : Int)) := (B6.cell (p := ⟨gl, 0, none⟩) hgl1).trans hgl2
              have pm7 : w6.drew.cell? ⟨g3, m, none⟩ = some (.string y) := StringL.at_ O6.out hzl3 hy
              have fz7 : w6.drew.frozen? ⟨g3, m, none⟩ = false := OwnL.frozen (j := m) O6.out
              have hX7 : Buf w6.drew w3.heap.size (xorN X (bts p)) := hX6.block rfl
              have hst7 := hX7.str (n := n) (c := n) al5
              clear hX7 hy
              rw [hZ] at HSET
              go_wp2_with (fail)
              refine region_stP 7 (by kernel_rfl) (by kernel_rfl) (fun w7 hw7 => ?_)
              rw [← hw7] at HSET B7 pl7 pm7 fz7 hst7
              clear hw7
              simp only [List.take_succ_cons, List.take_zero, List.drop_succ_cons, List.drop_zero]
              repeat still_step
              try refine wpStill_nil ?_
              go_wp2
              exact bodyPost_ret (v := .tuple #[.slice (some ⟨g3, 0, none⟩) bl.length c3, .int .i64 0]) (by simp [results, Tryz.results142, go_sem] <;> rfl) rfl (fin2 HSET.out (by simp; omega) (Below.setCell B7 (by show w.heap.size ≤ g3; exact hg3w) _) (by rw [HF.out]; show (_, _) = _; congr 1; show List.set _ (m : Int).toNat (if p.size = 0 then _ else _) = _; rw [if_neg hp0]; simp))
            · obtain ⟨gl, hAe, hgl1, hgl2⟩ := hgl 0 i rfl
              obtain ⟨gl', hAe', _, hgl3⟩ := hgl 1 j rfl
              obtain rfl : gl = gl' := by rw [hAe] at hAe'; simpa using hAe'
              subst hAe
              obtain ⟨m1, m2⟩ := hme i List.mem_cons_self
              obtain ⟨m3, m4⟩ := hme j (List.mem_cons_of_mem _ List.mem_cons_self)
              obtain ⟨m, rfl⟩ : ∃ m : Nat, i = (m : Int) := ⟨i.toNat, by omega⟩
              obtain ⟨k, rfl⟩ : ∃ k : Nat, j = (k : Int) := ⟨j.toNat, by omega⟩
              have hm : m < bl.length := by omega
              have hk : k < bl.length := by omega
              obtain ⟨g3, rfl, hg3, hg3'⟩ := hA3.resolve_left (by intro h0; rw [h0] at hzl3; simp at hzl3; omega)
              have hg3w : w.heap.size ≤ g3 := by simp at hg3; omega
              have hne : gl ≠ g3 := by omega
              have hZ := HZ2.out m k
              have HSV := Lib.hid (fun (w' : World) (hb' : Below w6.heap.size w6 w') => solve_s (m : Int) (k : Int) w3.heap.size n (w3.heap.size + 1) n n (xorN X (bts p)) (xorN Y (bts q)) w' (hX6.below hb' (by omega)) (hY6.below hb' (by omega)) (by have := hb'.size; omega) (by have := hb'.size; omega) al5 bl6 at5 bt6 (by omega) hz1 (by omega) (by omega))
              have HFX : Hid (r2E bl [(m : Int), (k : Int)] p q = (((leftG [(m : Int), (k : Int)] bl).set m (strN (scN (invF (gpow (m255 m) ^^^ gpow (m255 k))) (xorN (scN (gpow (m255 k)) (xorN X (bts p))) (xorN Y (bts q)))))).set k (strN (xorN (scN (invF (gpow (m255 m) ^^^ gpow (m255 k))) (xorN (scN (gpow (m255 k)) (xorN X (bts p))) (xorN Y (bts q)))) (xorN X (bts p)))), 0)) := Lib.hid (by
                rw [HF.out]; show (_, _) = _; congr 1
                show ((leftG [(m : Int), (k : Int)] bl).set m (strN (fstF X Y m k p q))).set k (strN (xorN (xorN X (bts p)) (fstF X Y m k p q))) = _
                unfold fstF
                rw [xorN_comm (xorN Y (bts q)) _, xorN_comm (xorN X (bts p)) (scN _ _)])
              generalize xorN (scN (invF (gpow (m255 m) ^^^ gpow (m255 k))) (xorN (scN (gpow (m255 k)) (xorN X (bts p))) (xorN Y (bts q)))) (xorN X (bts p)) = EE at *
              generalize scN (invF (gpow (m255 m) ^^^ gpow (m255 k))) (xorN (scN (gpow (m255 k)) (xorN X (bts p))) (xorN Y (bts q))) = FF at *
              have q0 : w6.drew.cell? ⟨gl, 0, none⟩ = some (.int .i64 (m : Int)) := (B6.cell (p := ⟨gl, 0, none⟩) hgl1).trans hgl2
              have q1 : w6.drew.cell? ⟨gl, 1, none⟩ = some (.int .i64 (k : Int)) := (B6.cell (p := ⟨gl, 1, none⟩) hgl1).trans hgl3
              have b67 : Below w6.heap.size w6 w6.drew := (Below.refl _ _).drew
              have hglw : gl < w6.heap.size := by have := B6.size; omega
              clear hme hgl hA3
              go_wp2_with (fail)
              go_region_held3 (fun w' => w'.cell? ⟨gl, 0, none⟩ = some (.int .i64 (m : Int)) ∧ w'.cell? ⟨gl, 1, none⟩ = some (.int .i64 (k : Int)))
                (first | exact ⟨q0, q1⟩ | exact ⟨(hb8.cell (p := ⟨gl, 0, none⟩) hglw).trans q0, (hb8.cell (p := ⟨gl, 1, none⟩) hglw).trans q1⟩ | go_keep)
                (first | (go_at_call 175; refine (HSV.out _ b67).mono ?_; rintro e w8 ⟨rfl, hb8⟩))
              all_goals
                have b68 : Below w6.heap.size w6 w8 := b67.trans hb8
                have B8 : Below w.heap.size w w8 := B6.trans (b68.mono B6.size)
                have O8 := OwnL.below O6.out b68
                obtain ⟨y, hy⟩ : ∃ y, (zerL n [(m : Int), (k : Int)] bl)[m]? = some y := ⟨_, List.getElem?_eq_getElem (by rw [hzl3]; exact hm)⟩
                have s0 : w8.cell? ⟨gl, 0, none⟩ = some (.int .i64 (m : Int)) := (B8.cell (p := ⟨gl, 0, none⟩) hgl1).trans hgl2
                have s1 : w8.cell? ⟨gl, 1, none⟩ = some (.int .i64 (k : Int)) := (B8.cell (p := ⟨gl, 1, none⟩) hgl1).trans hgl3
                have pm8 : w8.cell? ⟨g3, m, none⟩ = some (.string y) := StringL.at_ O8 hzl3 hy
                have fz8 := OwnL.frozen (j := m) O8
                obtain ⟨f1, f2⟩ := put_left0 O6.out hzl3 hm (by simp; omega) B6 b68 (strN FF)
                have t1 : (w8.setCell ⟨g3, m, none⟩ (.string (strN FF))).cell? ⟨gl, 1, none⟩ = some (.int .i64 (k : Int)) := (World.cell?_setCell_far _ _ _ _ (fun h => hne h.symm)).trans s1
                have hls : ((zerL n [(m : Int), (k : Int)] bl).set m (strN FF)).length = bl.length := by rw [List.length_set]; exact hzl3
                obtain ⟨u, hu⟩ : ∃ u, ((zerL n [(m : Int), (k : Int)] bl).set m (strN FF))[k]? = some u := ⟨_, List.getElem?_eq_getElem (by rw [hls]; exact hk)⟩
                have pk9 : (w8.setCell ⟨g3, m, none⟩ (.string (strN FF))).cell? ⟨g3, k, none⟩ = some (.string u) := StringL.at_ f1 hls hu
                have fk9 : (w8.setCell ⟨g3, m, none⟩ (.string (strN FF))).frozen? ⟨g3, k, none⟩ = false := OwnL.frozen (j := k) f1
                obtain ⟨h1, h2⟩ := put_left0 f1 hls hk (by simp; omega) f2 (Below.refl _ _) (strN EE)
                rw [hZ] at h1
                clear O8 hy hu f1
                go_wp2
                exact bodyPost_ret (v := .tuple #[.slice (some ⟨g3, 0, none⟩) bl.length c3, .int .i64 0]) (by simp [results, Tryz.results142, go_sem] <;> rfl) rfl (fin2 h1 (by simp; omega) h2 HFX.out)
            · simp at hLe
        · have he1 := e1_no hpe
          have he2 := e1_yes hqe
          have hcl : cntL L p q = L.length + 1 := by rw [hcd]; omega
          by_cases h2 : 2 < cntL L p q
          · have HF := Lib.hid (H10.out h2)
            have hd3 : 2 < (L.length : Int) + 1 := by omega
            have hd4 : 2 < L.length + 1 := by omega
            clear h2 hcl hcd
            go_enter Tryz.func142, Tryz.ntmps142
            go_wp2_with (fail)
            refine HRI.out.mono ?_; rintro e w1 ⟨rfl, hb1⟩
            have z1 := hb1.size
            go_wp2_with (fail)
            refine (HSZ.out w1 hb1).mono ?_; rintro e w2 ⟨rfl, rfl⟩
            go_wp2
            exact bodyPost_ret (v := .tuple #[.slice none 0 0, .int .i64 10]) (by simp [results, Tryz.results142, go_sem] <;> rfl) rfl ⟨_, by rw [HF.out], by rw [HF.out]; exact ⟨OwnL.of_nil, by simp [Value.ownBlock]⟩, Below.alloc hb1 z1 _⟩
          · have HF := Lib.hid (H0.out h2)
            have hd3 : ¬ 2 < (L.length : Int) + 1 := by omega
            have hd4 : ¬ 2 < L.length + 1 := by omega
            have hLe : L.length ≤ 1 := by omega
            clear h2 hcl hcd
            have hp0 : p.size ≠ 0 := fun h0 => by rw [emp_yesP h0] at hpe; cases hpe
            have hq0 : q.size = 0 := emp_iff.1 hqe
            go_enter Tryz.func142, Tryz.ntmps142
            go_wp2_with (fail)
            refine HRI.out.mono ?_; rintro e w1 ⟨rfl, hb1⟩
            have z1 := hb1.size
            go_wp2_with (fail)
            refine (HSZ.out w1 hb1).mono ?_; rintro e w2 ⟨rfl, rfl⟩
            go_wp2_with (fail)
            refine (HLS.out w1 hb1).mono ?_; rintro e w3 ⟨v3, rfl, o3, hb3⟩
            have z3 := hb3.size
            have B3 : Below w.heap.size w w3 := (Below.alloc hb1 z1 _).trans (hb3.mono (by simp; omega))
            have zw3 := B3.size
            have HM2 := Lib.hid (HMK.out v3 w3 (strL_own o3))
            have HO3 := Lib.hid o3
            obtain ⟨A3, c3, hv3, hA3⟩ := OwnL.shape o3
            rw [hzl] at hv3
            subst hv3
            clear o3
            go_wp2_with (fail)
            refine HM2.out.mono ?_; rintro e w4 ⟨rfl, hX4, hY4, hb4, hz4⟩
            have b34 : Below w3.heap.size w3 w4 := hb4
            have hpn := HGP.out hp0
            go_wp2_with (fail)
            refine ((quiet_plus w3.heap.size n 1 n X p xl1 (by omega) (by omega) (by omega) HXT.out).out w4 (by omega) hX4).mono ?_; rintro e w5 ⟨rfl, hX5, hc5, hs5⟩
            have hY5 := hY4.chg hc5 (by omega) (.inl (by omega))
            have b35 : Below w3.heap.size w3 w5 := Chg.below b34 hc5 (Nat.le_refl _) (Nat.le_refl _)
            have hs5' : w3.heap.size + 2 ≤ w5.heap.size := by omega
            clear hs5
            rw [show plusN X 1 (bts p) = xorN X (bts p) from plus1] at hX5
            have al5 : (xorN X (bts p)).length = n := by rw [xorN_len (by rw [bts_len]; omega)]; exact xl1
            have at5 : ∀ x ∈ xorN X (bts p), x < 256 := xorN_lt HXT.out bts_lt
            have hX6 := hX5
            have hY6 := hY5
            have b36 := b35
            have hs6 : w5.heap.size = w5.heap.size := rfl
            have bl6 := xl2
            have bt6 := HYT.out
            have B6 : Below w.heap.size w w5 := B3.trans (b36.mono zw3)
            have O6 := Lib.hid (OwnL.below HO3.out b36)
            have zg : w3.heap.size + 2 ≤ w5.heap.size := by omega
            have hgl := fun k x (hk : L[k]? = some x) => HAL.out k x hk
            have hme := HMEM.out
            have hzl3 := hzl
            rcases L with _ | ⟨i, _ | ⟨j, _ | ⟨j2, r⟩⟩⟩
            · rw [HZ0.out] at O6
              go_wp2
              exact bodyPost_ret (v := .tuple #[.slice A3 bl.length c3, .int .i64 0]) (by simp [results, Tryz.results142, go_sem] <;> rfl) rfl (fin2 O6.out (by simp; omega) B6 (by rw [HF.out]; rfl))
            · obtain ⟨gl, rfl, hgl1, hgl2⟩ := hgl 0 i rfl
              obtain ⟨m1, m2⟩ := hme i List.mem_cons_self
              obtain ⟨m, rfl⟩ : ∃ m : Nat, i = (m : Int) := ⟨i.toNat, by omega⟩
              have hm : m < bl.length := by omega
              obtain ⟨g3, rfl, hg3, hg3'⟩ := hA3.resolve_left (by intro h0; rw [h0] at hzl3; simp at hzl3; omega)
              obtain ⟨y, hy⟩ : ∃ y, (zerL n [(m : Int)] bl)[m]? = some y := ⟨_, List.getElem?_eq_getElem (by rw [hzl3]; exact hm)⟩
              have hg3w : w.heap.size ≤ g3 := by simp at hg3; omega
              have hZ := HZ1.out m
              clear hme hgl hA3
              have HSET := Lib.hid (StringL.set (w := w5.drew) (k := m) (OwnL.below O6.out ((Qt.refl w5).drew.below _)) hzl3 (by rw [hzl3]; exact hm) (strN (xorN X (bts p))))
              have B7 : Below w.heap.size w w5.drew := B6.drew
              have pl7 : w5.drew.cell? ⟨gl, 0, none⟩ = some (.int .i64 (m : Int)) := (B6.cell (p := ⟨gl, 0, none⟩) hgl1).trans hgl2
              have pm7 : w5.drew.cell? ⟨g3, m, none⟩ = some (.string y) := StringL.at_ O6.out hzl3 hy
              have fz7 : w5.drew.frozen? ⟨g3, m, none⟩ = false := OwnL.frozen (j := m) O6.out
              have hX7 : Buf w5.drew w3.heap.size (xorN X (bts p)) := hX6.block rfl
              have hst7 := hX7.str (n := n) (c := n) al5
              clear hX7 hy
              rw [hZ] at HSET
              go_wp2_with (fail)
              refine region_stP 7 (by kernel_rfl) (by kernel_rfl) (fun w7 hw7 => ?_)
              rw [← hw7] at HSET B7 pl7 pm7 fz7 hst7
              clear hw7
              simp only [List.take_succ_cons, List.take_zero, List.drop_succ_cons, List.drop_zero]
              repeat still_step
              try refine wpStill_nil ?_
              go_wp2
              exact bodyPost_ret (v := .tuple #[.slice (some ⟨g3, 0, none⟩) bl.length c3, .int .i64 0]) (by simp [results, Tryz.results142, go_sem] <;> rfl) rfl (fin2 HSET.out (by simp; omega) (Below.setCell B7 (by show w.heap.size ≤ g3; exact hg3w) _) (by rw [HF.out]; show (_, _) = _; congr 1; show List.set _ (m : Int).toNat (if p.size = 0 then _ else _) = _; rw [if_neg hp0]; simp))
            · simp at hLe
            · simp at hLe
      · cases hqe : q.toList.isEmpty
        · have he1 := e1_yes hpe
          have he2 := e1_no hqe
          have hcl : cntL L p q = L.length + 1 := by rw [hcd]; omega
          by_cases h2 : 2 < cntL L p q
          · have HF := Lib.hid (H10.out h2)
            have hd3 : 2 < (L.length : Int) + 1 := by omega
            have hd4 : 2 < L.length + 1 := by omega
            clear h2 hcl hcd
            go_enter Tryz.func142, Tryz.ntmps142
            go_wp2_with (fail)
            refine HRI.out.mono ?_; rintro e w1 ⟨rfl, hb1⟩
            have z1 := hb1.size
            go_wp2_with (fail)
            refine (HSZ.out w1 hb1).mono ?_; rintro e w2 ⟨rfl, rfl⟩
            go_wp2
            exact bodyPost_ret (v := .tuple #[.slice none 0 0, .int .i64 10]) (by simp [results, Tryz.results142, go_sem] <;> rfl) rfl ⟨_, by rw [HF.out], by rw [HF.out]; exact ⟨OwnL.of_nil, by simp [Value.ownBlock]⟩, Below.alloc hb1 z1 _⟩
          · have HF := Lib.hid (H0.out h2)
            have hd3 : ¬ 2 < (L.length : Int) + 1 := by omega
            have hd4 : ¬ 2 < L.length + 1 := by omega
            have hLe : L.length ≤ 1 := by omega
            clear h2 hcl hcd
            have hp0 : p.size = 0 := emp_iff.1 hpe
            have hq0 : q.size ≠ 0 := fun h0 => by rw [emp_yesP h0] at hqe; cases hqe
            go_enter Tryz.func142, Tryz.ntmps142
            go_wp2_with (fail)
            refine HRI.out.mono ?_; rintro e w1 ⟨rfl, hb1⟩
            have z1 := hb1.size
            go_wp2_with (fail)
            refine (HSZ.out w1 hb1).mono ?_; rintro e w2 ⟨rfl, rfl⟩
            go_wp2_with (fail)
            refine (HLS.out w1 hb1).mono ?_; rintro e w3 ⟨v3, rfl, o3, hb3⟩
            have z3 := hb3.size
            have B3 : Below w.heap.size w w3 := (Below.alloc hb1 z1 _).trans (hb3.mono (by simp; omega))
            have zw3 := B3.size
            have HM2 := Lib.hid (HMK.out v3 w3 (strL_own o3))
            have HO3 := Lib.hid o3
            obtain ⟨A3, c3, hv3, hA3⟩ := OwnL.shape o3
            rw [hzl] at hv3
            subst hv3
            clear o3
            go_wp2_with (fail)
            refine HM2.out.mono ?_; rintro e w4 ⟨rfl, hX4, hY4, hb4, hz4⟩
            have b34 : Below w3.heap.size w3 w4 := hb4
            have hX5 := hX4
            have hY5 := hY4
            have b35 := b34
            have hs5' : w3.heap.size + 2 ≤ w4.heap.size := hz4
            have al5 := xl1
            have at5 := HXT.out
            have hqn := HGQ.out hq0
            go_wp2_with (fail)
            refine ((quiet_plus (w3.heap.size + 1) n 1 n Y q xl2 (by omega) (by omega) (by omega) HYT.out).out w4 (by omega) hY5).mono ?_; rintro e w6 ⟨rfl, hY6, hc6, hs6⟩
            have hX6 := hX5.chg hc6 (by omega) (.inr (by omega))
            have b36 : Below w3.heap.size w3 w6 := Chg.below b35 hc6 (by omega) (Nat.le_refl _)
            have hs6' : w3.heap.size + 2 ≤ w6.heap.size := by omega
            clear hs6
            rw [show plusN Y 1 (bts q) = xorN Y (bts q) from plus1] at hY6
            have bl6 : (xorN Y (bts q)).length = n := by rw [xorN_len (by rw [bts_len]; omega)]; exact xl2
            have bt6 : ∀ x ∈ xorN Y (bts q), x < 256 := xorN_lt HYT.out bts_lt
            have B6 : Below w.heap.size w w6 := B3.trans (b36.mono zw3)
            have O6 := Lib.hid (OwnL.below HO3.out b36)
            have zg : w3.heap.size + 2 ≤ w6.heap.size := by omega
            have hgl := fun k x (hk : L[k]? = some x) => HAL.out k x hk
            have hme := HMEM.out
            have hzl3 := hzl
            rcases L with _ | ⟨i, _ | ⟨j, _ | ⟨j2, r⟩⟩⟩
            · rw [HZ0.out] at O6
              go_wp2
              exact bodyPost_ret (v := .tuple #[.slice A3 bl.length c3, .int .i64 0]) (by simp [results, Tryz.results142, go_sem] <;> rfl) rfl (fin2 O6.out (by simp; omega) B6 (by rw [HF.out]; rfl))
            · obtain ⟨gl, rfl, hgl1, hgl2⟩ := hgl 0 i rfl
              obtain ⟨m1, m2⟩ := hme i List.mem_cons_self
              obtain ⟨m, rfl⟩ : ∃ m : Nat, i = (m : Int) := ⟨i.toNat, by omega⟩
              have hm : m < bl.length := by omega
              obtain ⟨g3, rfl, hg3, hg3'⟩ := hA3.resolve_left (by intro h0; rw [h0] at hzl3; simp at hzl3; omega)
              obtain ⟨y, hy⟩ : ∃ y, (zerL n [(m : Int)] bl)[m]? = some y := ⟨_, List.getElem?_eq_getElem (by rw [hzl3]; exact hm)⟩
              have hg3w : w.heap.size ≤ g3 := by simp at hg3; omega
              have hZ := HZ1.out m
              clear hme hgl hA3
              have hgm := gpow_lt (m255 m)
              have hivl := inv_lt (gpow (m255 m))
              have HGW := Lib.hid (fun w' => gpow_s (m : Int) w' (by omega))
              have HIV := Lib.hid (fun w' => inv_s (gpow (m255 m)) w' hgm)
              have HFX : Hid (r2E bl [(m : Int)] p q = ((leftG [(m : Int)] bl).set m (strN (scN (invF (gpow (m255 m))) (xorN Y (bts q)))), 0)) := Lib.hid (by
                rw [HF.out]; show (_, _) = _; congr 1; show List.set _ (m : Int).toNat (if p.size = 0 then _ else _) = _; rw [if_pos hp0]; simp)
              generalize invF (gpow (m255 m)) = iv at *
              generalize gpow (m255 m) = gm at *
              obtain ⟨w7, hmk7, hbuf7, hb7, hwz7⟩ := buf_made w6 n (by omega)
              have B7 : Below w.heap.size w w7 := B6.trans (hb7.mono B6.size)
              have hY7 := hY6.below hb7 (by omega)
              have O7 := Lib.hid (OwnL.below O6.out hb7)
              have pl8 : w7.drew.cell? ⟨gl, 0, none⟩ = some (.int .i64 (m : Int)) := (B7.cell (p := ⟨gl, 0, none⟩) hgl1).trans hgl2
              have hY8 : Buf w7.drew (w3.heap.size + 1) (xorN Y (bts q)) := hY7.block rfl
              have hst8 := hY8.str (n := n) (c := n) bl6
              have hbuf8 : Buf w7.drew w6.heap.size (List.replicate n 0) := hbuf7.block rfl
              have B8 : Below w.heap.size w w7.drew := B7.drew
              have hz8 : w6.heap.size < w7.drew.heap.size := by show _ < w7.heap.size; omega
              have b78 : Below w6.heap.size w6 w7.drew := hb7.drew
              have hPQ := quiet_plus w6.heap.size n iv n (List.replicate n 0) (strN (xorN Y (bts q))) List.length_replicate (by rw [strN_size]; simp; omega) (by rw [strN_size]; omega) hivl zeros_lt
              rw [bts_strN bt6, plus_z bl6] at hPQ
              have scl : (scN iv (xorN Y (bts q))).length = n := by rw [scN_len]; exact bl6
              clear hY8 hbuf7 hwz7
              go_wp2_with (fail)
              refine region_stP 8 (by kernel_rfl) (by kernel_rfl) (fun w8 hw8 => ?_)
              rw [← hw8] at pl8 hst8 hbuf8 B8 hz8 b78
              clear hw8
              simp only [List.take_succ_cons, List.take_zero, List.drop_succ_cons, List.drop_zero]
              repeat still_step
              still_call (still_cP (HGW.out _))
              repeat still_step
              still_call (still_cP (HIV.out _))
              repeat still_step
              try refine wpStill_nil ?_
              go_wp2_with (fail)
              refine (hPQ.out w8 (by omega) hbuf8).mono ?_; rintro e w9 ⟨rfl, hB9, hc9, hs9⟩
              have b69 : Below w6.heap.size w6 w9 := Chg.below b78 hc9 (Nat.le_refl _) (Nat.le_refl _)
              have B9 : Below w.heap.size w w9 := B6.trans (b69.mono B6.size)
              have O9 := Lib.hid (OwnL.below O6.out b69)
              have HSET := Lib.hid (StringL.set (w := w9.drew) (k := m) (OwnL.below O9.out ((Qt.refl w9).drew.below _)) hzl3 (by rw [hzl3]; exact hm) (strN (scN iv (xorN Y (bts q)))))
              have B10 : Below w.heap.size w w9.drew := B9.drew
              have pl10 : w9.drew.cell? ⟨gl, 0, none⟩ = some (.int .i64 (m : Int)) := (B9.cell (p := ⟨gl, 0, none⟩) hgl1).trans hgl2
              have pm10 : w9.drew.cell? ⟨g3, m, none⟩ = some (.string y) := StringL.at_ O9.out hzl3 hy
              have fz10 : w9.drew.frozen? ⟨g3, m, none⟩ = false := OwnL.frozen (j := m) O9.out
              have hX10 : Buf w9.drew w6.heap.size (scN iv (xorN Y (bts q))) := hB9.block rfl
              have hst10 := hX10.str (n := n) (c := n) scl
              clear hX10 hy
              rw [hZ] at HSET
              go_wp2_with (fail)
              refine region_stP 7 (by kernel_rfl) (by kernel_rfl) (fun w10 hw10 => ?_)
              rw [← hw10] at HSET B10 pl10 pm10 fz10 hst10
              clear hw10
              simp only [List.take_succ_cons, List.take_zero, List.drop_succ_cons, List.drop_zero]
              repeat still_step
              try refine wpStill_nil ?_
              go_wp2
              exact bodyPost_ret (v := .tuple #[.slice (some ⟨g3, 0, none⟩) bl.length c3, .int .i64 0]) (by simp [results, Tryz.results142, go_sem] <;> rfl) rfl (fin2 HSET.out (by simp; omega) (Below.setCell B10 (by show w.heap.size ≤ g3; exact hg3w) _) HFX.out)
            · simp at hLe
            · simp at hLe
        · have he1 := e1_yes hpe
          have he2 := e1_yes hqe
          have hcl : cntL L p q = L.length + 2 := by rw [hcd]; omega
          by_cases h2 : 2 < cntL L p q
          · have HF := Lib.hid (H10.out h2)
            have hd3 : 2 < (L.length : Int) + 2 := by omega
            have hd4 : 2 < L.length + 2 := by omega
            clear h2 hcl hcd
            go_enter Tryz.func142, Tryz.ntmps142
            go_wp2_with (fail)
            refine HRI.out.mono ?_; rintro e w1 ⟨rfl, hb1⟩
            have z1 := hb1.size
            go_wp2_with (fail)
            refine (HSZ.out w1 hb1).mono ?_; rintro e w2 ⟨rfl, rfl⟩
            go_wp2
            exact bodyPost_ret (v := .tuple #[.slice none 0 0, .int .i64 10]) (by simp [results, Tryz.results142, go_sem] <;> rfl) rfl ⟨_, by rw [HF.out], by rw [HF.out]; exact ⟨OwnL.of_nil, by simp [Value.ownBlock]⟩, Below.alloc hb1 z1 _⟩
          · have HF := Lib.hid (H0.out h2)
            have hd3 : ¬ 2 < (L.length : Int) + 2 := by omega
            have hd4 : ¬ 2 < L.length + 2 := by omega
            have hLe : L.length ≤ 0 := by omega
            clear h2 hcl hcd
            have hp0 : p.size = 0 := emp_iff.1 hpe
            have hq0 : q.size = 0 := emp_iff.1 hqe
            go_enter Tryz.func142, Tryz.ntmps142
            go_wp2_with (fail)
            refine HRI.out.mono ?_; rintro e w1 ⟨rfl, hb1⟩
            have z1 := hb1.size
            go_wp2_with (fail)
            refine (HSZ.out w1 hb1).mono ?_; rintro e w2 ⟨rfl, rfl⟩
            go_wp2_with (fail)
            refine (HLS.out w1 hb1).mono ?_; rintro e w3 ⟨v3, rfl, o3, hb3⟩
            have z3 := hb3.size
            have B3 : Below w.heap.size w w3 := (Below.alloc hb1 z1 _).trans (hb3.mono (by simp; omega))
            have zw3 := B3.size
            have HM2 := Lib.hid (HMK.out v3 w3 (strL_own o3))
            have HO3 := Lib.hid o3
            obtain ⟨A3, c3, hv3, hA3⟩ := OwnL.shape o3
            rw [hzl] at hv3
            subst hv3
            clear o3
            go_wp2_with (fail)
            refine HM2.out.mono ?_; rintro e w4 ⟨rfl, hX4, hY4, hb4, hz4⟩
            have b34 : Below w3.heap.size w3 w4 := hb4
            have hX5 := hX4
            have hY5 := hY4
            have b35 := b34
            have hs5' : w3.heap.size + 2 ≤ w4.heap.size := hz4
            have al5 := xl1
            have at5 := HXT.out
            have hX6 := hX5
            have hY6 := hY5
            have b36 := b35
            have hs6 : w4.heap.size = w4.heap.size := rfl
            have bl6 := xl2
            have bt6 := HYT.out
            have B6 : Below w.heap.size w w4 := B3.trans (b36.mono zw3)
            have O6 := Lib.hid (OwnL.below HO3.out b36)
            have zg : w3.heap.size + 2 ≤ w4.heap.size := by omega
            have hgl := fun k x (hk : L[k]? = some x) => HAL.out k x hk
            have hme := HMEM.out
            have hzl3 := hzl
            rcases L with _ | ⟨i, _ | ⟨j, _ | ⟨j2, r⟩⟩⟩
            · rw [HZ0.out] at O6
              go_wp2
              exact bodyPost_ret (v := .tuple #[.slice A3 bl.length c3, .int .i64 0]) (by simp [results, Tryz.results142, go_sem] <;> rfl) rfl (fin2 O6.out (by simp; omega) B6 (by rw [HF.out]; rfl))
            · simp at hLe
            · simp at hLe
            · simp at hLe
end Go.Proofs.YtfcdienphillnaaGreat
