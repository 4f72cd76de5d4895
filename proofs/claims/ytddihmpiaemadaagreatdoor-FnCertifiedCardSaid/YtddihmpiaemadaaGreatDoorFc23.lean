/- RestoreTwo of the implementation: the walk. l23Solve of the reference: the walk. RestoreTwo of the reference: the walk. -/
import Derived.Test.YtddihmpiaemadaaGreatDoorFc17
import Derived.Test.YtddihmpiaemadaaGreatDoorFc02
import Derived.Maps.AppendAt
namespace Go.Proofs.YtddihmpiaemadaaGreatDoor
set_option linter.unusedVariables false
set_option linter.unusedSimpArgs false
open Go.RowKit
def ckF (p q : ByteArray) : Nat → Nat
  | 0 => 0
  | 1 => e1 p
  | _ => e1 p + e1 q
theorem put_left {B : Nat} {w w5 w6 : World} {g n c m : Nat} {le : List ByteArray} (o : StringL B w5 (.slice (some ⟨g, 0, none⟩) n c) le) (hn : le.length = n) (hm : m < n) (hB : w.heap.size ≤ B) (h5 : Below w.heap.size w w5) (h6 : Below w5.heap.size w5.drew w6) (S : ByteArray) :
    StringL B (w6.setCell ⟨g, m, none⟩ (.string S)) (.slice (some ⟨g, 0, none⟩) n c) (le.set m S) ∧ Below w.heap.size w (w6.setCell ⟨g, m, none⟩ (.string S)) := by
  have h6' : Below w5.heap.size w5 w6 := ⟨h6.os, h6.tape, h6.output, h6.size, h6.block⟩
  have hg := (World.ownsRow.lt o g rfl).1
  exact ⟨StringL.set (OwnL.below o h6') hn (by omega) S, Below.setCell (h5.trans (h6'.mono h5.size)) (by show w.heap.size ≤ g; omega) _⟩
theorem put_left0 {B : Nat} {w w5 w6 : World} {g n c m : Nat} {le : List ByteArray} (o : StringL B w5 (.slice (some ⟨g, 0, none⟩) n c) le) (hn : le.length = n) (hm : m < n) (hB : w.heap.size ≤ B) (h5 : Below w.heap.size w w5) (h6 : Below w5.heap.size w5 w6) (S : ByteArray) :
    StringL B (w6.setCell ⟨g, m, none⟩ (.string S)) (.slice (some ⟨g, 0, none⟩) n c) (le.set m S) ∧ Below w.heap.size w (w6.setCell ⟨g, m, none⟩ (.string S)) :=
  put_left o hn hm hB h5 ⟨h6.os, h6.tape, h6.output, h6.size, h6.block⟩ S
theorem fin2 {B : Nat} {w w' : World} {v : Value} {le : List ByteArray} {r : List ByteArray × Int} (o : StringL B w' v le) (hB : w.heap.size ≤ B) (h : Below w.heap.size w w') (hr : r = (le, 0)) : RStringS.retI w r.1 r.2 (.returned (.tuple #[v, .int .i64 0])) w' := by
  subst hr
  exact ⟨v, rfl, ⟨OwnL.base o hB, fun b hb => (World.ownsRow.lt o b hb).2⟩, h⟩
theorem region_s0P {P : Program} {id : Nat} {Q : Exit → Act → World → Prop} {a : Act} {w : World} {ops : Array Oper} (hm : P.follows .mixedOrders = true) (hB : Region.lexB .any ops = true)
    (h : ∀ w6, w6 = w.drew → wpStill P ops w6 (fun a' => Q .normal a' w6) ops.toList a) : (Code.region id ops true).wp P Q a w := wp_region_still hm hB (h _ rfl)
set_option maxRecDepth 20000 in
set_option maxHeartbeats 8000000 in
theorem r2_i (B : Nat) (bl : List ByteArray) (L : List Int) (p q : ByteArray) (v vl : Value) (w : World) (h : StringL B w v bl) (hl : IntsAt w vl L) (hn : bl.length ≤ 1048576) (hL : L.length ≤ 1048576) (hp : p.size ≤ 1048576) (hq : q.size ≤ 1048576) :
    Calls Tryz.prog 89 #[v, vl, .string p, .string q] w fun e w' => RStringS.retI w (r2E bl L p q).1 (r2E bl L p q).2 e w' := by
  have HO := Lib.hid h
  have HRI := Lib.hid (rises_i L vl 0 ((bl.length : Int) - 1) w hl (by omega))
  have HIA := Lib.hid (show ∀ w', Below w.heap.size w w' → IntsAt w' vl L from fun w' hb => by
    obtain ⟨A', c', rfl, hA'⟩ := hl
    refine ⟨_, _, rfl, hA'.imp id ?_⟩
    rintro ⟨g, rfl, hg, hc⟩
    exact ⟨g, rfl, Nat.lt_of_lt_of_le hg hb.size, fun k x hk => (hb.cell (p := ⟨g, k, none⟩) hg).trans (hc k x hk)⟩)
  obtain ⟨A, c, rfl, _⟩ := h.shape
  obtain ⟨Al, cl, rfl, hAl⟩ := hl
  have HAL := Lib.hid (show ∀ k x, L[k]? = some x → ∃ g, Al = some ⟨g, 0, none⟩ ∧ g < w.heap.size ∧ w.cell? ⟨g, k, none⟩ = some (.int .i64 x) from fun k x hk => by
    obtain ⟨g, h1, h2, h3⟩ := hAl.resolve_left (by rintro rfl; simp at hk)
    exact ⟨g, h1, h2, h3 k x hk⟩)
  clear h hAl
  cases hri : risesB 0 ((bl.length : Int) - 1) L
  · have HF := Lib.hid (r2_2 (p := p) (q := q) hri)
    rw [hri] at HRI
    go_enter Tryz.func89, Tryz.ntmps89
    go_wp2_with (first | (go_at_call 113; refine HRI.out.mono ?_; rintro e w1 ⟨rfl, rfl⟩) | go_in)
    exact bodyPost_ret (v := .tuple #[.slice none 0 0, .int .i64 2]) (by simp [results, Tryz.results89, go_sem] <;> rfl) rfl ⟨_, by rw [HF.out], by rw [HF.out]; exact ⟨OwnL.of_nil, by simp [Value.ownBlock]⟩, Below.refl _ _⟩
  · rw [hri] at HRI
    have hmem := rises_mem hri
    have HMEM := Lib.hid hmem
    have hbp : Below w.heap.size w (w.alloc (.cells #[.string p, .string q] 9)) := (by repeat (first | exact Below.refl _ _ | refine Below.alloc ?_ (by first | omega | (simp; done) | (simp; omega)) _ | apply Below.drew | apply below_drewN | refine Below.setCell ?_ (by first | omega | (simp; done) | (simp; omega)) _ | refine Below.trans ?_ (Below.mono (by assumption) (by first | omega | (simp; done) | (simp; omega)))))
    have HLO := Lib.hid (leftOver_i B bl [p, q] L (.slice A bl.length c) (.slice Al L.length cl) (.slice (some ⟨w.heap.size, 0, none⟩) 2 2) (w.alloc (.cells #[.string p, .string q] 9)) (OwnL.below HO.out hbp) (HIA.out _ hbp)
      ⟨_, _, rfl, .inr ⟨w.heap.size, rfl, by simp, fun k s hk => by
        match k, hk with
        | 0, hk => (obtain rfl : p = s := by simpa using hk); simp
        | 1, hk => (obtain rfl : q = s := by simpa using hk); simp
        | k + 2, hk => simp at hk⟩⟩ hn hL (by simp) (fun x hx => by have := hmem x hx; omega))
    unfold LeftR at HLO
    rw [show szK bl.length (ktF bl L [p, q]) = rK bl L p q from rfl] at HLO
    clear hmem
    by_cases hz : rK bl L p q = 0
    · have HF := Lib.hid (r2_1 (p := p) (q := q) hri (.inl hz))
      have hd : (((rK bl L p q : Nat) : Int) == 0) = true := by rw [hz]; rfl
      clear hz
      generalize rK bl L p q = n at *
      go_enter Tryz.func89, Tryz.ntmps89
      go_wp2_with (first | (go_at_call 113; refine HRI.out.mono ?_; rintro e w1 ⟨rfl, rfl⟩) | (go_at_call 115; refine HLO.out.mono ?_; rintro e w3 hh; obtain ⟨v3, rfl, hown, ⟨A3, n3, c3, rfl⟩, hb3⟩ := hh) | go_in)
      exact bodyPost_ret (v := .tuple #[.slice none 0 0, .int .i64 1]) (by simp [results, Tryz.results89, go_sem] <;> rfl) rfl ⟨_, by rw [HF.out], by rw [HF.out]; exact ⟨OwnL.of_nil, by simp [Value.ownBlock]⟩, hbp.trans (hb3.mono (by simp))⟩
    · have hd : (((rK bl L p q : Nat) : Int) == 0) = false := by rw [beq_eq_false_iff_ne]; omega
      by_cases hb0 : bl.length = 0
      · have HF := Lib.hid (r2_1 (p := p) (q := q) hri (.inr hb0))
        have hd2 : ((bl.length : Int) == 0) = true := by rw [hb0]; rfl
        clear hz hb0
        generalize rK bl L p q = n at *
        go_enter Tryz.func89, Tryz.ntmps89
        go_wp2_with (first | (go_at_call 113; refine HRI.out.mono ?_; rintro e w1 ⟨rfl, rfl⟩) | (go_at_call 115; refine HLO.out.mono ?_; rintro e w3 hh; obtain ⟨v3, rfl, hown, ⟨A3, n3, c3, rfl⟩, hb3⟩ := hh) | go_in)
        exact bodyPost_ret (v := .tuple #[.slice none 0 0, .int .i64 1]) (by simp [results, Tryz.results89, go_sem] <;> rfl) rfl ⟨_, by rw [HF.out], by rw [HF.out]; exact ⟨OwnL.of_nil, by simp [Value.ownBlock]⟩, hbp.trans (hb3.mono (by simp))⟩
      · have hd2 : ((bl.length : Int) == 0) = false := by rw [beq_eq_false_iff_ne]; omega
        have HG := Lib.hid (grp (p := p) (q := q) hz)
        have H10 := Lib.hid (fun h2 => r2_10 (p := p) (q := q) hri (fun h => h.elim hz hb0) h2)
        have H0 := Lib.hid (fun h2 => r2_0 (p := p) (q := q) hri (fun h => h.elim hz hb0) h2)
        have hcl : cntL L p q = L.length + ckF p q 2 := by show L.length + e1 p + e1 q = L.length + (e1 p + e1 q); omega
        have hn64 := HG.out.n2
        have hep : e1 p ≤ 1 := by unfold e1; split <;> omega
        have ck0 : ckF p q 0 = 0 := rfl
        have ck1 : ckF p q 1 = e1 p := rfl
        have heq : e1 q ≤ 1 := by unfold e1; split <;> omega
        obtain ⟨n, hnn⟩ : ∃ n, rK bl L p q = n := ⟨_, rfl⟩
        have HNN := Lib.hid hnn
        have HNZ := Lib.hid hz
        rw [hnn] at HLO hd hn64
        clear hz hb0 hnn
        go_enter Tryz.func89, Tryz.ntmps89
        go_wp2_with (first | (go_at_call 113; refine HRI.out.mono ?_; rintro e w1 ⟨rfl, rfl⟩) | (go_at_call 115; refine HLO.out.mono ?_; rintro e w3 hh; obtain ⟨v3, rfl, hown, ⟨A3, n3, c3, rfl⟩, hb3⟩ := hh) | go_in)
        have B3 : Below w.heap.size w w3 := hbp.trans (hb3.mono (by simp))
        have z3 := B3.size
        have o3 := hown (by have := HNZ.out; rw [HNN.out] at this; exact this)
        clear hown
        go_loop [49, 12] (fun i m => ∃ k : Nat, k ≤ 2 ∧ i = .int .i64 k ∧ m = .int .i64 ((L.length + ckF p q k : Nat) : Int)) (fun i _ => 2 - (intOf i).toNat)
        case atStart => exact ⟨0, by omega, rfl, by simp [ckF]⟩
        case round =>
          obtain ⟨k, hk, rfl, rfl⟩ := hrel
          rcases (by omega : k = 0 ∨ k = 1 ∨ k = 2) with rfl | rfl | rfl
          · cases hpe : p.toList.isEmpty
            · have he := e1_no hpe
              go_wp2
              go_round
              case rel => exact ⟨1, by omega, rfl, by rw [show ckF p q 1 = _ from he]; go_num⟩
              case measure => simp [intOf]
            · have he := e1_yes hpe
              go_wp2
              go_round
              case rel => exact ⟨1, by omega, rfl, by rw [show ckF p q 1 = _ from he]; go_num⟩
              case measure => simp [intOf]
          · cases hqe : q.toList.isEmpty
            · have he := e1_no hqe
              go_wp2
              go_round
              case rel => exact ⟨2, by omega, rfl, by rw [show ckF p q 2 = e1 p + 0 from by show e1 p + e1 q = _; rw [he]]; go_num⟩
              case measure => simp [intOf]
            · have he := e1_yes hqe
              go_wp2
              go_round
              case rel => exact ⟨2, by omega, rfl, by rw [show ckF p q 2 = e1 p + 1 from by show e1 p + e1 q = _; rw [he]]; go_num⟩
              case measure => simp [intOf]
          · rw [← hcl]
            by_cases h2 : 2 < cntL L p q
            · have HF := Lib.hid (H10.out h2)
              have hd3 : decide ((2 : Int) < (cntL L p q : Int)) = true := decide_eq_true (by omega)
              generalize cntL L p q = cc at *
              go_wp2
              exact bodyPost_ret (v := .tuple #[.slice none 0 0, .int .i64 10]) (by simp [results, Tryz.results89, go_sem] <;> rfl) rfl ⟨_, by rw [HF.out], by rw [HF.out]; exact ⟨OwnL.of_nil, by simp [Value.ownBlock]⟩, Below.alloc B3 z3 _⟩
            · have HF := Lib.hid (H0.out h2)
              have hd3 : decide ((2 : Int) < (cntL L p q : Int)) = false := decide_eq_false (by omega)
              have hLe : L.length ≤ 2 := by unfold cntL at h2; omega
              have hcnt : ¬ 2 < L.length + e1 p + e1 q := h2
              have HC := Lib.hid hcnt
              have BC : Below w.heap.size w (w3.alloc (.cells #[.string p, .string q] 9)) := Below.alloc B3 z3 _
              have hcb : Below w3.heap.size w3 (w3.alloc (.cells #[.string p, .string q] 9)) := Below.alloc (Below.refl _ _) (Nat.le_refl _) _
              have OC := OwnL.below o3 hcb
              have HPA := Lib.hid (HG.out.par _ (w3.alloc (.cells #[.string p, .string q] 9)) (strL_own OC))
              rw [HNN.out] at HPA
              have HGL := Lib.hid HG.out.len
              have HGT := Lib.hid HG.out.lt
              rw [HNN.out] at HGL
              have HGP := Lib.hid (fun h => (HG.out.p h).trans HNN.out)
              have HGQ := Lib.hid (fun h => (HG.out.q h).trans HNN.out)
              generalize rX bl L p q = X at *
              generalize rY bl L p q = Y at *
              have hll := left_len L bl
              have hl3 := OwnL.shape o3
              clear h2 hcl hcnt H10 H0
              generalize cntL L p q = cc at *
              go_wp2_with (fail)
              refine HPA.out.mono ?_; rintro e w5 ⟨rfl, hb5⟩
              have z5 := hb5.size
              have z5' : w3.heap.size < w5.heap.size := by simp at z5; omega
              have B5 : Below w.heap.size w w5 := BC.trans (hb5.mono BC.size)
              have O5 := Lib.hid (OwnL.below OC hb5)
              obtain ⟨xl1, xl2⟩ := HGL.out
              obtain ⟨xt1, xt2⟩ := HGT.out
              have HXT := Lib.hid xt1
              have HYT := Lib.hid xt2
              clear xt1 xt2
              obtain ⟨A3', c3', hv3, hA3⟩ := hl3
              obtain ⟨rfl, rfl, rfl⟩ : A3 = A3' ∧ n3 = (leftG L bl).length ∧ c3 = c3' := by simpa using hv3
              rw [hll] at O5 ⊢
              have hgl := fun k x (hk : L[k]? = some x) => HAL.out k x hk
              have hme := HMEM.out
              rcases L with _ | ⟨i, _ | ⟨j, _ | ⟨j2, r⟩⟩⟩
              · go_wp2
                exact bodyPost_ret (v := .tuple #[.slice A3 bl.length c3, .int .i64 0]) (by simp [results, Tryz.results89, go_sem] <;> rfl) rfl ⟨_, by rw [HF.out], by rw [HF.out]; exact ⟨OwnL.base O5.out (by first | omega | (simp; done) | (simp; omega)), fun b hb => (World.ownsRow.lt O5.out b hb).2⟩, B5⟩
              · obtain ⟨gl, rfl, hgl1, hgl2⟩ := hgl 0 i rfl
                obtain ⟨m1, m2⟩ := hme i List.mem_cons_self
                obtain ⟨m, rfl⟩ : ∃ m : Nat, i = (m : Int) := ⟨i.toNat, by omega⟩
                have hm : m < bl.length := by omega
                obtain ⟨g3, rfl, hg3, hg3'⟩ := hA3.resolve_left (by intro h0; rw [h0] at hll; simp at hll; omega)
                obtain ⟨y, hy⟩ : ∃ y, (leftG [(m : Int)] bl)[m]? = some y := ⟨_, List.getElem?_eq_getElem (by rw [hll]; exact hm)⟩
                have pl5 : w5.drew.cell? ⟨gl, 0, none⟩ = some (.int .i64 (m : Int)) := (B5.cell (p := ⟨gl, 0, none⟩) hgl1).trans hgl2
                have pm5 : w5.drew.cell? ⟨g3, m, none⟩ = some (.string y) := StringL.at_ O5.out hll hy
                have fz5 : w5.drew.frozen? ⟨g3, m, none⟩ = false := OwnL.frozen (j := m) O5.out
                have hglw : gl < w5.heap.size := by omega
                simp at hg3
                have hne : gl ≠ g3 := by omega
                have hg3w : g3 < w5.heap.size := (World.ownsRow.lt O5.out g3 rfl).2
                clear hy hme hgl hA3
                cases hpe : p.toList.isEmpty
                · have hp0 : p.size ≠ 0 := fun h0 => by rw [emp_yesP h0] at hpe; cases hpe
                  have hpn := HGP.out hp0
                  have HO1 : Hid (outL (leftG [(m : Int)] bl) X Y p q [(m : Int)] = (leftG [(m : Int)] bl).set m (strN (xorN X (bts p)))) := Lib.hid (by show (leftG [(m : Int)] bl).set (m : Int).toNat (if p.size = 0 then _ else _) = _; rw [if_neg hp0]; simp)
                  have HXR := Lib.hid (fun w' => xorN_i X p w' HXT.out (by omega) (by omega))
                  generalize strN (xorN X (bts p)) = S at *
                  clear hp0
                  go_wp2_with (fail)
                  go_region_held3 (fun w' => w'.cell? ⟨gl, 0, none⟩ = some (.int .i64 (m : Int)))
                    (first | exact pl5 | exact (hb6.cell (p := ⟨gl, 0, none⟩) hglw).trans pl5 | exact (World.cell?_setCell_far _ _ _ _ (fun h => hne h.symm)).trans ((hb6.cell (p := ⟨gl, 0, none⟩) hglw).trans pl5) | go_keep)
                    (first | (go_at_call 117; refine (HXR.out _).mono ?_; rintro e w6 ⟨rfl, hb6⟩; have pm6 := (hb6.cell (p := ⟨g3, m, none⟩) hg3w).trans pm5; have fz6 := (hb6.frozen (p := ⟨g3, m, none⟩) hg3w).trans fz5))
                  all_goals
                    obtain ⟨f1, f2⟩ := put_left O5.out hll hm (by first | omega | (simp; done) | (simp; omega)) B5 hb6 S
                    go_wp2
                    exact bodyPost_ret (v := .tuple #[.slice (some ⟨g3, 0, none⟩) bl.length c3, .int .i64 0]) (by simp [results, Tryz.results89, go_sem] <;> rfl) rfl (fin2 f1 (by first | omega | (simp; done) | (simp; omega)) f2 (by rw [HF.out, HO1.out]))
                · have hp0 : p.size = 0 := emp_iff.1 hpe
                  have hq0 : q.size ≠ 0 := fun h0 => by
                    have := HC.out
                    unfold e1 at this
                    rw [if_pos hp0, if_pos h0] at this
                    simp at this
                  have hqn := HGQ.out hq0
                  have HO1 : Hid (outL (leftG [(m : Int)] bl) X Y p q [(m : Int)] = (leftG [(m : Int)] bl).set m (strN (scN (invF (gpow (m255 m))) (xorN Y (bts q))))) := Lib.hid (by show (leftG [(m : Int)] bl).set (m : Int).toNat (if p.size = 0 then _ else _) = _; rw [if_pos hp0]; simp)
                  have HXR := Lib.hid (fun w' => xorN_i Y q w' HYT.out (by omega) (by omega))
                  have hyl : (xorN Y (bts q)).length = n := by rw [xorN_len (by rw [bts_len]; omega)]; exact xl2
                  have hyt : ∀ x ∈ xorN Y (bts q), x < 256 := xorN_lt HYT.out bts_lt
                  have HUN := Lib.hid (fun w' => unscN_i (xorN Y (bts q)) (gpow (m255 m)) w' hyt (by omega) (gpow_lt _))
                  have HGW := Lib.hid (fun w' => gpow_i (m : Int) w' (by omega))
                  generalize hSS : strN (scN (invF (gpow (m255 m))) (xorN Y (bts q))) = S at *
                  generalize strN (xorN Y (bts q)) = T at *
                  generalize gpow (m255 m) = gm at *
                  clear hp0 hq0 hyt hyl hSS
                  go_wp2_with (fail)
                  go_region_held3 (fun w' => w'.cell? ⟨gl, 0, none⟩ = some (.int .i64 (m : Int)))
                    (first | exact pl5 | exact (hb6.cell (p := ⟨gl, 0, none⟩) hglw).trans pl5 | exact pl7 | exact (World.cell?_setCell_far _ _ _ _ (fun h => hne h.symm)).trans pl7 | go_keep)
                    (first | (go_at_call 117; refine (HXR.out _).mono ?_; rintro e w6 ⟨rfl, hb6⟩; have z6 : w5.heap.size ≤ w6.heap.size := hb6.size) | (go_at_call 119; refine (HGW.out _).mono ?_; rintro e wg ⟨rfl, rfl⟩) | (go_at_call 118; refine (HUN.out _).mono ?_; rintro e w7 ⟨rfl, hb7⟩; have hb67 : Below w5.heap.size w5.drew w7 := hb6.trans (hb7.mono z6); have pl7 := (hb67.cell (p := ⟨gl, 0, none⟩) hglw).trans pl5; have pm7 := (hb67.cell (p := ⟨g3, m, none⟩) hg3w).trans pm5; have fz7 := (hb67.frozen (p := ⟨g3, m, none⟩) hg3w).trans fz5))
                  all_goals
                    obtain ⟨f1, f2⟩ := put_left O5.out hll hm (by first | omega | (simp; done) | (simp; omega)) B5 hb67 S
                    go_wp2
                    exact bodyPost_ret (v := .tuple #[.slice (some ⟨g3, 0, none⟩) bl.length c3, .int .i64 0]) (by simp [results, Tryz.results89, go_sem] <;> rfl) rfl (fin2 f1 (by first | omega | (simp; done) | (simp; omega)) f2 (by rw [HF.out, HO1.out]))
              · obtain ⟨gl, hAe, hgl1, hgl2⟩ := hgl 0 i rfl
                obtain ⟨gl', hAe', _, hgl3⟩ := hgl 1 j rfl
                obtain rfl : gl = gl' := by rw [hAe] at hAe'; simpa using hAe'
                subst hAe
                obtain ⟨m1, m2⟩ := hme i List.mem_cons_self
                obtain ⟨m3, m4⟩ := hme j (List.mem_cons_of_mem _ List.mem_cons_self)
                obtain ⟨m, rfl⟩ : ∃ m : Nat, i = (m : Int) := ⟨i.toNat, by omega⟩
                obtain ⟨k, rfl⟩ : ∃ k : Nat, j = (k : Int) := ⟨j.toNat, by omega⟩
                have hm : m < bl.length := by omega
                have hk : k < bl.length := by omega
                obtain ⟨g3, rfl, hg3, hg3'⟩ := hA3.resolve_left (by intro h0; rw [h0] at hll; simp at hll; omega)
                have hep0 : e1 p = 0 := by have := HC.out; simp at this; omega
                have heq0 : e1 q = 0 := by have := HC.out; simp at this; omega
                have hp0 : p.size ≠ 0 := fun h0 => by unfold e1 at hep0; rw [if_pos h0] at hep0; cases hep0
                have hq0 : q.size ≠ 0 := fun h0 => by unfold e1 at heq0; rw [if_pos h0] at heq0; cases heq0
                have hpe : p.toList.isEmpty = false := emp_noP hp0
                have hpn := HGP.out hp0
                have hqn := HGQ.out hq0
                have HO1 : Hid (outL (leftG [(m : Int), (k : Int)] bl) X Y p q [(m : Int), (k : Int)] = ((leftG [(m : Int), (k : Int)] bl).set m (strN (fstF X Y m k p q))).set k (strN (xorN (xorN X (bts p)) (fstF X Y m k p q)))) := Lib.hid rfl
                have hFF : fstF X Y m k p q = scN (invF (gpow (m255 m) ^^^ gpow (m255 k))) (xorN (xorN Y (bts q)) (scN (gpow (m255 k)) (xorN X (bts p)))) := rfl
                have HXP := Lib.hid (fun w' => xorN_i X p w' HXT.out (by omega) (by omega))
                have HXQ := Lib.hid (fun w' => xorN_i Y q w' HYT.out (by omega) (by omega))
                have sl : (xorN X (bts p)).length = n := by rw [xorN_len (by rw [bts_len]; omega)]; exact xl1
                have ol : (xorN Y (bts q)).length = n := by rw [xorN_len (by rw [bts_len]; omega)]; exact xl2
                have st : ∀ x ∈ xorN X (bts p), x < 256 := xorN_lt HXT.out bts_lt
                have ot : ∀ x ∈ xorN Y (bts q), x < 256 := xorN_lt HYT.out bts_lt
                generalize xorN X (bts p) = SS at *
                generalize xorN Y (bts q) = OO at *
                have HSC := Lib.hid (fun w' => scaN_i SS (k : Int) w' st (by omega) (by omega))
                have cl1 : (scN (gpow (m255 k)) SS).length = n := by rw [scN_len]; exact sl
                have ct : ∀ x ∈ scN (gpow (m255 k)) SS, x < 256 := scN_lt st
                generalize scN (gpow (m255 k)) SS = CC at *
                have HXC := Lib.hid (fun w' => xorNN_i OO CC w' ot ct (by omega) (by omega))
                have dl : (xorN OO CC).length = n := by rw [xorN_len (by omega)]; exact ol
                have dt : ∀ x ∈ xorN OO CC, x < 256 := xorN_lt ot ct
                generalize xorN OO CC = DD at *
                have hgi := gpow_lt (m255 m)
                have hgj := gpow_lt (m255 k)
                have HGI := Lib.hid (fun w' => gpow_i (m : Int) w' (by omega))
                have HGJ := Lib.hid (fun w' => gpow_i (k : Int) w' (by omega))
                generalize gpow (m255 m) = gi at *
                generalize gpow (m255 k) = gj at *
                have hxr := i64_xor_nat gi gj (by omega) (by omega)
                have HUN := Lib.hid (fun w' => unscN_i DD (gi ^^^ gj) w' dt (by omega) (xor_lt256 hgi hgj))
                have fl : (scN (invF (gi ^^^ gj)) DD).length = n := by rw [scN_len]; exact dl
                have ft : ∀ x ∈ scN (invF (gi ^^^ gj)) DD, x < 256 := scN_lt dt
                rw [hFF] at HO1
                clear hFF
                generalize scN (invF (gi ^^^ gj)) DD = FF at *
                generalize gi ^^^ gj = gx at *
                have HXF := Lib.hid (fun w' => xorNN_i SS FF w' st ft (by omega) (by omega))
                generalize xorN SS FF = EE at *
                simp at hg3
                have hne : gl ≠ g3 := by omega
                clear hme hgl hA3 hp0 hq0 hep0 heq0
                go_wp2_with (fail)
                refine (HXP.out _).mono ?_; rintro e w6 ⟨rfl, hb6⟩
                have z6 := hb6.size
                go_wp2_with (fail)
                refine (HXQ.out _).mono ?_; rintro e w7 ⟨rfl, hb7⟩
                have z7 := hb7.size
                have B7 : Below w.heap.size w w7 := B5.trans ((hb6.trans (hb7.mono z6)).mono B5.size)
                have b57 : Below w5.heap.size w5 w7 := hb6.trans (hb7.mono z6)
                have q0 : w7.drew.cell? ⟨gl, 0, none⟩ = some (.int .i64 (m : Int)) := (B7.cell (p := ⟨gl, 0, none⟩) hgl1).trans hgl2
                have q1 : w7.drew.cell? ⟨gl, 1, none⟩ = some (.int .i64 (k : Int)) := (B7.cell (p := ⟨gl, 1, none⟩) hgl1).trans hgl3
                have hb8' : Below w7.heap.size w7 w7.drew := (Below.refl _ _).drew
                go_wp2_with (fail)
                refine region_s0P (by kernel_rfl) (by kernel_rfl) (fun w8 hw8 => ?_)
                rw [← hw8] at q0 q1 hb8'
                clear hw8
                repeat still_step
                still_call (still_cP (HGI.out _))
                repeat still_step
                still_call (still_cP (HGJ.out _))
                repeat still_step
                refine wpStill_nil ?_
                have z8 : w7.heap.size ≤ w8.heap.size := hb8'.size
                have B8 : Below w.heap.size w w8 := B7.trans (hb8'.mono B7.size)
                have r1 : w8.cell? ⟨gl, 1, none⟩ = some (.int .i64 (k : Int)) := (B8.cell (p := ⟨gl, 1, none⟩) hgl1).trans hgl3
                go_wp2_with (fail)
                refine (HSC.out _).mono ?_; rintro e w9 ⟨rfl, hb9⟩
                have z9 := hb9.size
                go_wp2_with (fail)
                refine (HXC.out _).mono ?_; rintro e w10 ⟨rfl, hb10⟩
                have z10 := hb10.size
                go_wp2_with (fail)
                refine (HUN.out _).mono ?_; rintro e w11 ⟨rfl, hb11⟩
                have z11 := hb11.size
                have b5b : Below w5.heap.size w5 w11 := b57.trans ((hb8'.trans ((hb9.trans ((hb10.trans (hb11.mono z10)).mono z9)).mono z8)).mono (by omega))
                have B11 : Below w.heap.size w w11 := B5.trans (b5b.mono B5.size)
                have s0 : w11.cell? ⟨gl, 0, none⟩ = some (.int .i64 (m : Int)) := (B11.cell (p := ⟨gl, 0, none⟩) hgl1).trans hgl2
                have s1 : w11.cell? ⟨gl, 1, none⟩ = some (.int .i64 (k : Int)) := (B11.cell (p := ⟨gl, 1, none⟩) hgl1).trans hgl3
                have O11 := OwnL.below O5.out b5b
                obtain ⟨y, hy⟩ : ∃ y, (leftG [(m : Int), (k : Int)] bl)[m]? = some y := ⟨_, List.getElem?_eq_getElem (by rw [hll]; exact hm)⟩
                have pm11 : w11.cell? ⟨g3, m, none⟩ = some (.string y) := StringL.at_ O11 hll hy
                have fz11 : w11.frozen? ⟨g3, m, none⟩ = false := OwnL.frozen (j := m) O11
                obtain ⟨f1, f2⟩ := put_left0 O5.out hll hm (by first | omega | (simp; done) | (simp; omega)) B5 b5b (strN FF)
                have F1 := Lib.hid f1
                clear r1 O11 hy f1
                go_wp2_with (fail)
                generalize hw12 : w11.setCell ⟨g3, m, none⟩ (.string (strN FF)) = w12 at *
                have t1 : w12.drew.cell? ⟨gl, 1, none⟩ = some (.int .i64 (k : Int)) := by
                  rw [← hw12]; exact (World.cell?_setCell_far _ _ _ _ (fun h => hne h.symm)).trans s1
                have hls : ((leftG [(m : Int), (k : Int)] bl).set m (strN FF)).length = bl.length := by rw [List.length_set]; exact hll
                obtain ⟨u, hu⟩ : ∃ u, ((leftG [(m : Int), (k : Int)] bl).set m (strN FF))[k]? = some u := ⟨_, List.getElem?_eq_getElem (by rw [hls]; exact hk)⟩
                have pk12 : w12.drew.cell? ⟨g3, k, none⟩ = some (.string u) := StringL.at_ F1.out hls hu
                have fk12 : w12.drew.frozen? ⟨g3, k, none⟩ = false := OwnL.frozen (j := k) F1.out
                have hg3w : g3 < w12.heap.size := (World.ownsRow.lt F1.out g3 rfl).2
                have hglw : gl < w12.heap.size := by have := f2.size; omega
                clear hw12 hu
                go_region_held3 (fun w' => w'.cell? ⟨gl, 1, none⟩ = some (.int .i64 (k : Int)))
                  (first | exact t1 | exact (hb13.cell (p := ⟨gl, 1, none⟩) hglw).trans t1 | exact (World.cell?_setCell_far _ _ _ _ (fun h => hne h.symm)).trans ((hb13.cell (p := ⟨gl, 1, none⟩) hglw).trans t1) | go_keep)
                  (first | (go_at_call 117; refine (HXF.out _).mono ?_; rintro e w13 ⟨rfl, hb13⟩; have pm13 := (hb13.cell (p := ⟨g3, k, none⟩) hg3w).trans pk12; have fz13 := (hb13.frozen (p := ⟨g3, k, none⟩) hg3w).trans fk12))
                all_goals
                  obtain ⟨h1, h2⟩ := put_left F1.out hls hk (by first | omega | (simp; done) | (simp; omega)) f2 hb13 (strN EE)
                  go_wp2
                  exact bodyPost_ret (v := .tuple #[.slice (some ⟨g3, 0, none⟩) bl.length c3, .int .i64 0]) (by simp [results, Tryz.results89, go_sem] <;> rfl) rfl (fin2 h1 (by first | omega | (simp; done) | (simp; omega)) h2 (by rw [HF.out, HO1.out]))
              · simp at hLe
end Go.Proofs.YtddihmpiaemadaaGreatDoor
namespace Go.Proofs.YtddihmpiaemadaaGreatDoor
set_option linter.unusedVariables false
set_option linter.unusedSimpArgs false
open Go.RowKit
theorem Buf.at_ {w : World} {g k x : Nat} {l : List Nat} (h : Buf w g l) (hk : l[k]? = some x) : w.cell? ⟨g, k, none⟩ = some (.int .u8 (x : Int)) := (h k x hk).1
end Go.Proofs.YtddihmpiaemadaaGreatDoor
namespace Go.Proofs.YtddihmpiaemadaaGreatDoor
set_option linter.unusedVariables false
set_option linter.unusedSimpArgs false
open Go.RowKit
end Go.Proofs.YtddihmpiaemadaaGreatDoor
