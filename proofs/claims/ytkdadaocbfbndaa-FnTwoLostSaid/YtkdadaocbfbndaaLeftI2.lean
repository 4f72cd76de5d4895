/- leftOver of the implementation: the walk. -/
import Derived.Test.YtkdadaocbfbndaaLeftI
namespace Go.Proofs.Ytkdadaocbfbndaa
set_option linter.unusedVariables false
open Go.RowKit
/-- what leftOver returns: the blocks with empty ones for those lost, and the size of all others -/
def LeftR (w : World) (bl : List ByteArray) (L : List Int) (mo : List ByteArray) (e : Ending) (w' : World) : Prop :=
  ∃ v, e = .returned (.tuple #[v, .int .i64 (szK bl.length (ktF bl L mo))]) ∧ (szK bl.length (ktF bl L mo) ≠ 0 → StringL w.heap.size w' v (leftG L bl)) ∧ (∃ A n c, v = .slice A n c) ∧ Below w.heap.size w w'
theorem fs_far {α : Type} {f : α → List Value} {z : Nat} {e : TypeId} {B g o : Nat} {w : World} {v u : Value} {l : List α} (h : OwnL f z e B w v l) (hg : g < B) : OwnL f z e B (w.setCell ⟨g, o, none⟩ u) v l :=
  ownsRow_setCell_other h (fun he => by have := (World.ownsRow.lt h _ he).1; simp at this; omega) u
theorem box_app {wr w5 : World} {o : Obj} {bx : Nat} {kv u : Value} {t : TypeId} {l : List ByteArray} (hO : StringL (bx + 1) wr kv l) (hB : wr.heap[bx]? = some (.cells #[u] t (0, 0))) (hg : (wr.alloc o).grownBy w5 kv.ownBlock) : w5.heap[bx]? = some (.cells #[u] t (0, 0)) := by
  have h1 := lt_of_block hB
  refine (hg.block bx (by simp; omega) (fun he => ?_)).trans (((World.grownBy_alloc wr o none).block bx h1 (by simp)).trans hB)
  have := (World.ownsRow.lt hO _ he.symm).1
  omega
theorem leftR_no {w w' : World} {bl mo : List ByteArray} {L : List Int} (h : szK bl.length (ktF bl L mo) = 0) (hb : Below w.heap.size w w') : LeftR w bl L mo (.returned (.tuple #[.slice none 0 0, .int .i64 0])) w' :=
  ⟨_, by rw [h]; rfl, fun h' => absurd h h', ⟨none, 0, 0, rfl⟩, hb⟩
set_option maxRecDepth 20000 in
set_option maxHeartbeats 8000000 in
theorem leftOver_i (B : Nat) (bl mo : List ByteArray) (L : List Int) (vb vl vm : Value) (w : World) (hb : StringL B w vb bl) (hl : IntsAt w vl L) (hm : StrL w vm mo) (hn : bl.length ≤ 1048576) (hL : L.length ≤ 1048576) (hM : mo.length ≤ 2) (hx : ∀ x ∈ L, 0 ≤ x ∧ x < (bl.length : Int)) :
    Calls Try.prog 47 #[vb, vl, vm] w fun e w' => LeftR w bl L mo e w' := by
  obtain ⟨i0, hi, hz0, hz1, hz2⟩ := info_parts scell_info
  have HCL := Lib.hid (clone_str B vb bl w hb hn)
  have HIL := Lib.hid hl
  have HX := Lib.hid hx
  have HBL := Lib.hid hb
  obtain ⟨Ab, cb, rfl, _⟩ := hb.shape
  obtain ⟨Al, cl, rfl, hAl⟩ := hl
  obtain ⟨Am, cm, rfl, hAm⟩ := hm
  have hAl' : ∀ k x, L[k]? = some x → ∃ g, Al = some ⟨g, 0, none⟩ ∧ g < w.heap.size ∧ w.cell? ⟨g, k, none⟩ = some (.int .i64 x) := fun k x hk => by
    obtain ⟨g, h1, h2, h3⟩ := hAl.resolve_left (by rintro rfl; simp at hk)
    exact ⟨g, h1, h2, h3 k x hk⟩
  have hAm' : ∀ k s, mo[k]? = some s → ∃ g, Am = some ⟨g, 0, none⟩ ∧ g < w.heap.size ∧ w.cell? ⟨g, k, none⟩ = some (.string s) := fun k x hk => by
    obtain ⟨g, h1, h2, h3⟩ := hAm.resolve_left (by rintro rfl; simp at hk)
    exact ⟨g, h1, h2, h3 k x hk⟩
  have HAL := Lib.hid hAl'
  have HAM := Lib.hid hAm'
  clear hAl hAm hAl' hAm' hb hx
  go_enter Try.func47, Try.ntmps47
  go_wp2_with (fail)
  refine HCL.out.mono ?_; rintro e w1 ⟨v1, rfl, o1, hb1⟩
  have z1 := hb1.size
  obtain ⟨A1, c1, rfl, hA1⟩ := OwnL.shape o1
  go_wp2
  go_loopw [20] (fun i wr => ∃ j : Nat, j ≤ L.length ∧ i = .int .i64 j ∧ Below w.heap.size w wr ∧ StringL w.heap.size wr (.slice A1 bl.length c1) (leftG (L.take j) bl)) (fun i _ => L.length - (intOf i).toNat)
  case atStart => exact ⟨0, by omega, rfl, hb1, by rw [List.take_zero, left_nil]; exact o1⟩
  case round =>
    obtain ⟨j, hj, rfl, hbw, how⟩ := hrel
    clear o1 hb1 z1
    have zr := hbw.size
    by_cases hlt : j < L.length
    · obtain ⟨x, hxk⟩ : ∃ x, L[j]? = some x := ⟨L[j], List.getElem?_eq_getElem hlt⟩
      obtain ⟨x0, x1⟩ := HX.out x (List.mem_of_getElem? hxk)
      obtain ⟨m, rfl⟩ : ∃ m : Nat, x = (m : Int) := ⟨x.toNat, by omega⟩
      have hm : m < bl.length := by omega
      obtain ⟨gl, rfl, hgl, hcl⟩ := HAL.out j _ hxk
      have p0 : wr.cell? ⟨gl, j, none⟩ = some (.int .i64 (m : Int)) := (hbw.cell (p := ⟨gl, j, none⟩) hgl).trans hcl
      have hll := left_len (L.take j) bl
      obtain ⟨g1, rfl, hg1, hg1'⟩ := hA1.resolve_left (by rintro rfl; simp at hm)
      obtain ⟨y, hy⟩ : ∃ y, (leftG (L.take j) bl)[m]? = some y := ⟨_, List.getElem?_eq_getElem (by rw [hll]; exact hm)⟩
      have p1 : wr.cell? ⟨g1, m, none⟩ = some (.string y) := StringL.at_ how hll hy
      have z0 := fun j => OwnL.frozen (j := j) how
      have HS := Lib.hid (StringL.set how hll (by rw [hll]; exact hm) .empty)
      rw [left_set hxk hm] at HS
      clear hxk hy how hcl
      go_wp2
      go_roundw
      case rel => exact ⟨j + 1, by omega, by go_num, Below.setCell hbw (by show w.heap.size ≤ g1; exact hg1) _, HS.out⟩
      case measure => simp [intOf]; omega
    · obtain rfl : j = L.length := by omega
      rw [List.take_length] at how
      generalize hwo : wr = wo at *
      clear hwo
      have HLO := Lib.hid how
      clear how
      have hKL := kn_len L 0 bl
      go_wp2
      go_loopw [30] (fun i wr => ∃ (k : Nat) (kv : Value) (acc : List ByteArray), k ≤ bl.length ∧ i = .int .i64 k ∧ acc.length ≤ k ∧ Below wo.heap.size wo wr ∧ wr.heap[wo.heap.size]? = some (.cells #[kv] 25 (0, 0)) ∧ StringL (wo.heap.size + 1) wr kv acc ∧ Hid (knF L 0 bl = acc ++ knF L k (bl.drop k))) (fun i _ => bl.length - (intOf i).toNat)
      case atStart => exact ⟨0, _, [], by omega, rfl, by simp, Below.alloc (Below.refl _ _) (Nat.le_refl _) _, heap_alloc_new _ _, OwnL.of_nil, Lib.hid rfl⟩
      case round =>
        obtain ⟨k, kv, acc, hk, rfl, hacc, hbq, hbx, hkv, HK⟩ := hrel
        have zq := hbq.size
        have hbt := hbw.trans (hbq.mono zr)
        by_cases hkl : k < bl.length
        · obtain ⟨b, hbk⟩ : ∃ b, bl[k]? = some b := ⟨bl[k], List.getElem?_eq_getElem hkl⟩
          obtain ⟨g1, rfl, hg1, hg1'⟩ := hA1.resolve_left (by rintro rfl; simp at hkl)
          have hg1o := (HLO.out.lt g1 rfl).2
          have p1 := (hbq.cell (p := ⟨g1, k, none⟩) hg1o).trans (StringL.at_ HLO.out (left_len L bl) (left_get hbk))
          have HIL2 : Hid (IntsAt wr (.slice Al L.length cl) L) := Lib.hid (by
            obtain ⟨A', c', he, hA'⟩ := HIL.out
            obtain ⟨rfl, rfl⟩ : Al = A' ∧ cl = c' := by simpa using he
            refine ⟨_, _, rfl, hA'.imp id ?_⟩
            rintro ⟨g, rfl, hg, hc⟩
            exact ⟨g, rfl, by omega, fun k x hk => (hbt.cell (p := ⟨g, k, none⟩) hg).trans (hc k x hk)⟩)
          have HCN := Lib.hid (contains_i L k _ wr HIL2.out (by omega) (by omega))
          cases hc : hasB L k
          · rw [hc] at p1 HCN
            have HN := kn_no hbk HK hc
            have pb := cell_of_one hbx
            have fb := free_of_one hbx
            obtain ⟨Ak, ck, rfl, _⟩ := OwnL.shape hkv
            have HKV := Lib.hid hkv
            have HBX := Lib.hid hbx
            clear hbk hkv hbx
            go_wp2_with (first | (go_at_call 65; refine HCN.out.mono ?_; rintro e' w4 ⟨rfl, rfl⟩) | (at_builtin; refine wpList_app1 scell 1 scell_len _ rfl _ _ _ rfl (wo.heap.size + 1) 9 i0 (.string .empty) 16 Try.underlying25 hi hz0 hz1 hz2 rfl (by decide) _ acc rfl (HKV.out.alloc _) _ 1 b rfl ?_ (by simp [scell, Value.oneCell']) (by omega) (by omega) (by simp; omega) ?_; (· intro j u hu; cases j with | zero => (simp [scell] at hu; subst hu; simp) | succ j => simp [scell] at hu); intro v' w5 how2 hg2; have hbx2 := box_app HKV.out HBX.out hg2; have pb2 := cell_of_one hbx2; have fb2 := free_of_one hbx2; obtain ⟨A5, c5, rfl, _⟩ := OwnL.shape how2; rw [show (acc ++ [b]).length = acc.length + 1 by simp] at how2))
            go_roundw
            case rel => exact ⟨k + 1, _, acc ++ [b], by omega, by go_num, by simp; omega, (own_grown_below (HKV.out.alloc _) (Below.alloc hbq zq _) hg2 (by omega) (by simp; omega)).setCell (by show wo.heap.size ≤ wo.heap.size; omega) _, one_setCell hbx2, fs_far how2 (by omega), HN⟩
            case measure => simp [intOf]; omega
          · rw [hc] at p1 HCN
            have HN := kn_yes hbk HK hc
            clear hbk
            go_wp2_with (go_at_call 65; refine HCN.out.mono ?_; rintro e' w4 ⟨rfl, rfl⟩)
            go_roundw
            case rel => exact ⟨k + 1, kv, acc, by omega, by go_num, by omega, hbq, hbx, hkv, HN⟩
            case measure => simp [intOf]; omega
        · obtain rfl := kn_end (by omega) HK
          generalize hwp : wr = wp at *
          clear hwp
          go_wp2
          go_loopw [46] (fun i wr => ∃ (k : Nat) (kv : Value) (acc : List ByteArray), k ≤ mo.length ∧ i = .int .i64 k ∧ acc.length ≤ bl.length + k ∧ Below wo.heap.size wo wr ∧ wr.heap[wo.heap.size]? = some (.cells #[kv] 25 (0, 0)) ∧ StringL (wo.heap.size + 1) wr kv acc ∧ Hid (ktF bl L mo = acc ++ neF (mo.drop k))) (fun i _ => mo.length - (intOf i).toNat)
          case atStart => exact ⟨0, kv, _, by omega, rfl, by omega, hbq, hbx, hkv, Lib.hid rfl⟩
          case round =>
            obtain ⟨k, kv, acc, hk, rfl, hacc, hbq, hbx, hkv, HK⟩ := hrel
            have zq := hbq.size
            have hbt := hbw.trans (hbq.mono zr)
            have pb := cell_of_one hbx
            have fb := free_of_one hbx
            obtain ⟨Ak, ck, rfl, hAk⟩ := OwnL.shape hkv
            have HKV := Lib.hid hkv
            have HBX := Lib.hid hbx
            by_cases hkl : k < mo.length
            · obtain ⟨b, hbk⟩ : ∃ b, mo[k]? = some b := ⟨mo[k], List.getElem?_eq_getElem hkl⟩
              obtain ⟨gm, rfl, hgm, hcm⟩ := HAM.out k b hbk
              have p1 := (hbt.cell (p := ⟨gm, k, none⟩) hgm).trans hcm
              cases hc : b.toList.isEmpty
              · have HN := ne_no hbk HK hc
                clear hbk hkv hbx hAk hcm
                go_wp2_with (at_builtin; refine wpList_app1 scell 1 scell_len _ rfl _ _ _ rfl (wo.heap.size + 1) 9 i0 (.string .empty) 16 Try.underlying25 hi hz0 hz1 hz2 rfl (by decide) _ acc rfl (HKV.out.alloc _) _ 1 b rfl ?_ (by simp [scell, Value.oneCell']) (by omega) (by omega) (by simp; omega) ?_; (· intro j u hu; cases j with | zero => (simp [scell] at hu; subst hu; simp) | succ j => simp [scell] at hu); intro v' w5 how2 hg2; have hbx2 := box_app HKV.out HBX.out hg2; have pb2 := cell_of_one hbx2; have fb2 := free_of_one hbx2; obtain ⟨A5, c5, rfl, _⟩ := OwnL.shape how2; rw [show (acc ++ [b]).length = acc.length + 1 by simp] at how2)
                go_roundw
                case rel => exact ⟨k + 1, _, acc ++ [b], by omega, by go_num, by simp; omega, (own_grown_below (HKV.out.alloc _) (Below.alloc hbq zq _) hg2 (by omega) (by simp; omega)).setCell (by show wo.heap.size ≤ wo.heap.size; omega) _, one_setCell hbx2, fs_far how2 (by omega), HN⟩
                case measure => simp [intOf]; omega
              · have HN := ne_yes hbk HK hc
                clear hbk hAk hcm
                go_wp2
                go_roundw
                case rel => exact ⟨k + 1, _, acc, by omega, by go_num, by omega, hbq, hbx, hkv, HN⟩
                case measure => simp [intOf]; omega
            · obtain rfl := ne_end (by omega) HK
              have HLW := Lib.hid (OwnL.below HLO.out hbq)
              have HSL := Lib.hid (left_len L bl)
              by_cases h128 : 128 < bl.length
              · have HZ := szK_big (K := ktF bl L mo) h128
                have hd : decide ((128 : Int) < (bl.length : Int)) = true := decide_eq_true (by omega)
                go_wp2
                exact bodyPost_ret (v := .tuple #[.slice none 0 0, .int .i64 0]) (by simp [results, Try.results47, go_sem]) rfl (leftR_no HZ hbt)
              · have hd : decide ((128 : Int) < (bl.length : Int)) = false := decide_eq_false (by omega)
                by_cases hK0 : ktF bl L mo = []
                · have HZ : szK bl.length (ktF bl L mo) = 0 := by rw [hK0]; rfl
                  have hk0 : (((ktF bl L mo).length : Int) == 0) = true := by rw [hK0]; rfl
                  go_wp2
                  exact bodyPost_ret (v := .tuple #[.slice none 0 0, .int .i64 0]) (by simp [results, Try.results47, go_sem]) rfl (leftR_no HZ hbt)
                · obtain ⟨s0, r0, hKc⟩ := List.exists_cons_of_ne_nil hK0
                  have h0 : (ktF bl L mo)[0]? = some s0 := by rw [hKc]; rfl
                  have hk0 : (((ktF bl L mo).length : Int) == 0) = false := by rw [beq_eq_false_iff_ne, hKc]; simp; omega
                  have hkp : 0 < (ktF bl L mo).length := by rw [hKc]; simp
                  obtain ⟨gk, rfl, _, hgk⟩ := hAk.resolve_left hK0
                  have HKC := Lib.hid (fun k s (hk : (ktF bl L mo)[k]? = some s) => StringL.at_ hkv rfl hk)
                  have c0 := HKC.out 0 s0 h0
                  have H0 := Lib.hid h0
                  clear hKc hK0 h0 hbx hkv hAk
                  cases hb0 : inB s0.size 1 64
                  · have HZ := szK_no (n := bl.length) H0.out (by rw [hb0, Bool.and_false, Bool.false_and])
                    go_wp2_with (go_at_call 40; refine (within_i _ _ _ _).mono ?_; rintro e w4 ⟨rfl, rfl⟩)
                    exact bodyPost_ret (v := .tuple #[.slice none 0 0, .int .i64 0]) (by simp [results, Try.results47, go_sem]) rfl (leftR_no HZ hbt)
                  · have HI := Lib.hid (indexL_i wo.heap.size gk ck (ktF bl L mo) s0 wr (by unfold maxLen; omega) pb H0.out HKC.out)
                    have HID := Lib.hid (idxN_all s0.size 0 (ktF bl L mo))
                    cases hsz : sizesAre s0.size (ktF bl L mo)
                    · have HZ := szK_no (n := bl.length) H0.out (by rw [hsz, Bool.and_false])
                      have hi : decide ((0 : Int) ≤ idxN s0.size 0 (ktF bl L mo)) = true := HID.out.trans (by show (!(sizesAre s0.size (ktF bl L mo))) = true; rw [hsz]; rfl)
                      generalize idxN s0.size 0 (ktF bl L mo) = y at *
                      go_wp2_with (first | (go_at_call 40; refine (within_i _ _ _ _).mono ?_; rintro e w4 ⟨rfl, rfl⟩) | (go_at_call 74; refine HI.out.mono ?_; rintro e w4 ⟨rfl, rfl⟩) | go_in)
                      exact bodyPost_ret (v := .tuple #[.slice none 0 0, .int .i64 0]) (by simp [results, Try.results47, go_sem]) rfl (leftR_no HZ hbt)
                    · have HZ := Lib.hid (szK_yes (n := bl.length) H0.out (by omega) hb0 hsz)
                      have hi : decide ((0 : Int) ≤ idxN s0.size 0 (ktF bl L mo)) = false := HID.out.trans (by show (!(sizesAre s0.size (ktF bl L mo))) = false; rw [hsz]; rfl)
                      generalize idxN s0.size 0 (ktF bl L mo) = y at *
                      go_wp2_with (first | (go_at_call 40; refine (within_i _ _ _ _).mono ?_; rintro e w4 ⟨rfl, rfl⟩) | (go_at_call 74; refine HI.out.mono ?_; rintro e w4 ⟨rfl, rfl⟩) | go_in)
                      go_quiet (fail)
                      go_wp2
                      exact bodyPost_ret (v := .tuple #[.slice A1 bl.length c1, .int .i64 s0.size]) (by simp [results, Try.results47, go_sem]) rfl ⟨_, by rw [HZ.out], fun _ => OwnL.below HLW.out (((Qt.refl _).drewN _).below _), ⟨_, _, _, rfl⟩, hbt.trans (((Qt.refl _).drewN _).below _)⟩
end Go.Proofs.Ytkdadaocbfbndaa
