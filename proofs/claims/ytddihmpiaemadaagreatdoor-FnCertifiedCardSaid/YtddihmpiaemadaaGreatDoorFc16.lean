/- leftOver of the implementation: the walk. l23Plus: the walk. zeros, parity, l23Make: the walks. -/
import Derived.Test.YtddihmpiaemadaaGreatDoorFc15
import Derived.Test.YtddihmpiaemadaaGreatDoorFc14
import Derived.Test.YtddihmpiaemadaaGreatDoorFc04
namespace Go.Proofs.YtddihmpiaemadaaGreatDoor
set_option linter.unusedVariables false
set_option linter.unusedSimpArgs false
open Go.RowKit
/-- what leftOver returns: the blocks with empty ones for those lost, and the size of all others -/
def LeftR (w : World) (bl : List ByteArray) (L : List Int) (mo : List ByteArray) (e : Ending) (w' : World) : Prop :=
  ∃ v, e = .returned (.tuple #[v, .int .i64 (szK bl.length (ktF bl L mo))]) ∧ (szK bl.length (ktF bl L mo) ≠ 0 → StringL w.heap.size w' v (leftG L bl)) ∧ (∃ A n c, v = .slice A n c) ∧ Below w.heap.size w w'
theorem fs_far {α : Type} {f : α → List Value} {z : Nat} {e : TypeId} {B g o : Nat} {w : World} {v u : Value} {l : List α} (h : OwnL f z e B w v l) (hg : g < B) : OwnL f z e B (w.setCell ⟨g, o, none⟩ u) v l :=
  ownsRow_setCell_other h (fun he => by have := (World.ownsRow.lt h _ he).1; simp at this; omega) u
theorem box_app {wr w5 : World} {o : Obj} {bx : Nat} {kv u : Value} {t : TypeId} {l : List ByteArray} (hO : StringL (bx + 1) wr kv l) (hB : wr.heap[bx]? = some (.cells #[u] t (0, 0))) (hg : (wr.alloc o).grownBy w5 kv.ownBlock) : w5.heap[bx]? = some (.cells #[u] t (0, 0)) := by
  have h1 := lt_of_block hB
  refine (hg.block bx (by simp; omega) (fun he => ?_)).trans (((World.grownBy_alloc wr o none).block bx h1 (by simp)).trans hB)
  have := (World.ownsRow.lt hO _ he.symm).1
  omega
theorem leftR_no {w w' : World} {bl mo : List ByteArray} {L : List Int} (h : szK bl.length (ktF bl L mo) = 0) (hb : Below w.heap.size w w') : LeftR w bl L mo (.returned (.tuple #[.slice none 0 0, .int .i64 0])) w' :=
  ⟨_, by rw [h]; rfl, fun h' => absurd h h', ⟨none, 0, 0, rfl⟩, hb⟩
set_option maxRecDepth 20000 in
set_option maxHeartbeats 8000000 in
theorem leftOver_i (B : Nat) (bl mo : List ByteArray) (L : List Int) (vb vl vm : Value) (w : World) (hb : StringL B w vb bl) (hl : IntsAt w vl L) (hm : StrL w vm mo) (hn : bl.length ≤ 1048576) (hL : L.length ≤ 1048576) (hM : mo.length ≤ 2) (hx : ∀ x ∈ L, 0 ≤ x ∧ x < (bl.length : Int)) :
    Calls Tryz.prog 115 #[vb, vl, vm] w fun e w' => LeftR w bl L mo e w' := by
  obtain ⟨i0, hi, hz0, hz1, hz2⟩ := info_parts scell_info
  have HCL := Lib.hid (clone_str B vb bl w hb hn)
  have HIL := Lib.hid hl
  have HX := Lib.hid hx
  have HBL := Lib.hid hb
  obtain ⟨Ab, cb, rfl, _⟩ := hb.shape
  obtain ⟨Al, cl, rfl, hAl⟩ := hl
  obtain ⟨Am, cm, rfl, hAm⟩ := hm
  have hAl' : ∀ k x, L[k]? = some x → ∃ g, Al = some ⟨g, 0, none⟩ ∧ g < w.heap.size ∧ w.cell? ⟨g, k, none⟩ = some (.int .i64 x) := fun k x hk => by
    obtain ⟨g, h1, h2, h3⟩ := hAl.resolve_left (by rintro rfl; simp at hk)
    exact ⟨g, h1, h2, h3 k x hk⟩
  have hAm' : ∀ k s, mo[k]? = some s → ∃ g, Am = some ⟨g, 0, none⟩ ∧ g < w.heap.size ∧ w.cell? ⟨g, k, none⟩ = some (.string s) := fun k x hk => by
    obtain ⟨g, h1, h2, h3⟩ := hAm.resolve_left (by rintro rfl; simp at hk)
    exact ⟨g, h1, h2, h3 k x hk⟩
  have HAL := Lib.hid hAl'
  have HAM := Lib.hid hAm'
  clear hAl hAm hAl' hAm' hb hx
  go_enter Tryz.func115, Tryz.ntmps115
  go_wp2_with (fail)
  refine HCL.out.mono ?_; rintro e w1 ⟨v1, rfl, o1, hb1⟩
  have z1 := hb1.size
  obtain ⟨A1, c1, rfl, hA1⟩ := OwnL.shape o1
  go_wp2
  go_loopw [20] (fun i wr => ∃ j : Nat, j ≤ L.length ∧ i = .int .i64 j ∧ Below w.heap.size w wr ∧ StringL w.heap.size wr (.slice A1 bl.length c1) (leftG (L.take j) bl)) (fun i _ => L.length - (intOf i).toNat)
  case atStart => exact ⟨0, by omega, rfl, hb1, by rw [List.take_zero, left_nil]; exact o1⟩
  case round =>
    obtain ⟨j, hj, rfl, hbw, how⟩ := hrel
    clear o1 hb1 z1
    have zr := hbw.size
    by_cases hlt : j < L.length
    · obtain ⟨x, hxk⟩ : ∃ x, L[j]? = some x := ⟨L[j], List.getElem?_eq_getElem hlt⟩
      obtain ⟨x0, x1⟩ := HX.out x (List.mem_of_getElem? hxk)
      obtain ⟨m, rfl⟩ : ∃ m : Nat, x = (m : Int) := ⟨x.toNat, by omega⟩
      have hm : m < bl.length := by omega
      obtain ⟨gl, rfl, hgl, hcl⟩ := HAL.out j _ hxk
      have p0 : wr.cell? ⟨gl, j, none⟩ = some (.int .i64 (m : Int)) := (hbw.cell (p := ⟨gl, j, none⟩) hgl).trans hcl
      have hll := left_len (L.take j) bl
      obtain ⟨g1, rfl, hg1, hg1'⟩ := hA1.resolve_left (by rintro rfl; simp at hm)
      obtain ⟨y, hy⟩ : ∃ y, (leftG (L.take j) bl)[m]? = some y := ⟨_, List.getElem?_eq_getElem (by rw [hll]; exact hm)⟩
      have p1 : wr.cell? ⟨g1, m, none⟩ = some (.string y) := StringL.at_ how hll hy
      have z0 := fun j => OwnL.frozen (j := j) how
      have HS := Lib.hid (StringL.set how hll (by rw [hll]; exact hm) .empty)
      rw [left_set hxk hm] at HS
      clear hxk hy how hcl
      go_wp2
      go_roundw
      case rel => exact ⟨j + 1, by omega, by go_num, Below.setCell hbw (by show w.heap.size ≤ g1; exact hg1) _, HS.out⟩
      case measure => simp [intOf]; omega
    · obtain rfl : j = L.length := by omega
      rw [List.take_length] at how
      generalize hwo : wr = wo at *
      clear hwo
      have HLO := Lib.hid how
      clear how
      have hKL := kn_len L 0 bl
      go_wp2
      go_loopw [30] (fun i wr => ∃ (k : Nat) (kv : Value) (acc : List ByteArray), k ≤ bl.length ∧ i = .int .i64 k ∧ acc.length ≤ k ∧ Below wo.heap.size wo wr ∧ wr.heap[wo.heap.size]? = some (.cells #[kv] 26 (0, 0)) ∧ StringL (wo.heap.size + 1) wr kv acc ∧ Hid (knF L 0 bl = acc ++ knF L k (bl.drop k))) (fun i _ => bl.length - (intOf i).toNat)
      case atStart => exact ⟨0, _, [], by omega, rfl, by simp, Below.alloc (Below.refl _ _) (Nat.le_refl _) _, heap_alloc_new _ _, OwnL.of_nil, Lib.hid rfl⟩
      case round =>
        obtain ⟨k, kv, acc, hk, rfl, hacc, hbq, hbx, hkv, HK⟩ := hrel
        have zq := hbq.size
        have hbt := hbw.trans (hbq.mono zr)
        by_cases hkl : k < bl.length
        · obtain ⟨b, hbk⟩ : ∃ b, bl[k]? = some b := ⟨bl[k], List.getElem?_eq_getElem hkl⟩
          obtain ⟨g1, rfl, hg1, hg1'⟩ := hA1.resolve_left (by rintro rfl; simp at hkl)
          have hg1o := (HLO.out.lt g1 rfl).2
          have p1 := (hbq.cell (p := ⟨g1, k, none⟩) hg1o).trans (StringL.at_ HLO.out (left_len L bl) (left_get hbk))
          have HIL2 : Hid (IntsAt wr (.slice Al L.length cl) L) := Lib.hid (by
            obtain ⟨A', c', he, hA'⟩ := HIL.out
            obtain ⟨rfl, rfl⟩ : Al = A' ∧ cl = c' := by simpa using he
            refine ⟨_, _, rfl, hA'.imp id ?_⟩
            rintro ⟨g, rfl, hg, hc⟩
            exact ⟨g, rfl, by omega, fun k x hk => (hbt.cell (p := ⟨g, k, none⟩) hg).trans (hc k x hk)⟩)
          have HCN := Lib.hid (contains_i L k _ wr HIL2.out (by omega) (by omega))
          cases hc : hasB L k
          · rw [hc] at p1 HCN
            have HN := kn_no hbk HK hc
            have pb := cell_of_one hbx
            have fb := free_of_one hbx
            obtain ⟨Ak, ck, rfl, _⟩ := OwnL.shape hkv
            have HKV := Lib.hid hkv
            have HBX := Lib.hid hbx
            clear hbk hkv hbx
            go_wp2_with (first | (go_at_call 151; refine HCN.out.mono ?_; rintro e' w4 ⟨rfl, rfl⟩) | (at_builtin; refine wpList_app1 scell 1 scell_len _ rfl _ _ _ rfl (wo.heap.size + 1) 9 i0 (.string .empty) 16 Tryz.underlying26 hi hz0 hz1 hz2 rfl (by decide) _ acc rfl (HKV.out.alloc _) _ 1 b rfl ?_ (by simp [scell, Value.oneCell']) (by omega) (by omega) (by simp; omega) ?_; (· intro j u hu; cases j with | zero => (simp [scell] at hu; subst hu; simp) | succ j => simp [scell] at hu); intro v' w5 how2 hg2; have hbx2 := box_app HKV.out HBX.out hg2; have pb2 := cell_of_one hbx2; have fb2 := free_of_one hbx2; obtain ⟨A5, c5, rfl, _⟩ := OwnL.shape how2; rw [show (acc ++ [b]).length = acc.length + 1 by simp] at how2))
            go_roundw
            case rel => exact ⟨k + 1, _, acc ++ [b], by omega, by go_num, by simp; omega, (own_grown_below (HKV.out.alloc _) (Below.alloc hbq zq _) hg2 (by omega) (by simp; omega)).setCell (by show wo.heap.size ≤ wo.heap.size; omega) _, one_setCell hbx2, fs_far how2 (by omega), HN⟩
            case measure => simp [intOf]; omega
          · rw [hc] at p1 HCN
            have HN := kn_yes hbk HK hc
            clear hbk
            go_wp2_with (go_at_call 151; refine HCN.out.mono ?_; rintro e' w4 ⟨rfl, rfl⟩)
            go_roundw
            case rel => exact ⟨k + 1, kv, acc, by omega, by go_num, by omega, hbq, hbx, hkv, HN⟩
            case measure => simp [intOf]; omega
        · obtain rfl := kn_end (by omega) HK
          generalize hwp : wr = wp at *
          clear hwp
          go_wp2
          go_loopw [46] (fun i wr => ∃ (k : Nat) (kv : Value) (acc : List ByteArray), k ≤ mo.length ∧ i = .int .i64 k ∧ acc.length ≤ bl.length + k ∧ Below wo.heap.size wo wr ∧ wr.heap[wo.heap.size]? = some (.cells #[kv] 26 (0, 0)) ∧ StringL (wo.heap.size + 1) wr kv acc ∧ Hid (ktF bl L mo = acc ++ neF (mo.drop k))) (fun i _ => mo.length - (intOf i).toNat)
          case atStart => exact ⟨0, kv, _, by omega, rfl, by omega, hbq, hbx, hkv, Lib.hid rfl⟩
          case round =>
            obtain ⟨k, kv, acc, hk, rfl, hacc, hbq, hbx, hkv, HK⟩ := hrel
            have zq := hbq.size
            have hbt := hbw.trans (hbq.mono zr)
            have pb := cell_of_one hbx
            have fb := free_of_one hbx
            obtain ⟨Ak, ck, rfl, hAk⟩ := OwnL.shape hkv
            have HKV := Lib.hid hkv
            have HBX := Lib.hid hbx
            by_cases hkl : k < mo.length
            · obtain ⟨b, hbk⟩ : ∃ b, mo[k]? = some b := ⟨mo[k], List.getElem?_eq_getElem hkl⟩
              obtain ⟨gm, rfl, hgm, hcm⟩ := HAM.out k b hbk
              have p1 := (hbt.cell (p := ⟨gm, k, none⟩) hgm).trans hcm
              cases hc : b.toList.isEmpty
              · have HN := ne_no hbk HK hc
                clear hbk hkv hbx hAk hcm
                go_wp2_with (at_builtin; refine wpList_app1 scell 1 scell_len _ rfl _ _ _ rfl (wo.heap.size + 1) 9 i0 (.string .empty) 16 Tryz.underlying26 hi hz0 hz1 hz2 rfl (by decide) _ acc rfl (HKV.out.alloc _) _ 1 b rfl ?_ (by simp [scell, Value.oneCell']) (by omega) (by omega) (by simp; omega) ?_; (· intro j u hu; cases j with | zero => (simp [scell] at hu; subst hu; simp) | succ j => simp [scell] at hu); intro v' w5 how2 hg2; have hbx2 := box_app HKV.out HBX.out hg2; have pb2 := cell_of_one hbx2; have fb2 := free_of_one hbx2; obtain ⟨A5, c5, rfl, _⟩ := OwnL.shape how2; rw [show (acc ++ [b]).length = acc.length + 1 by simp] at how2)
                go_roundw
                case rel => exact ⟨k + 1, _, acc ++ [b], by omega, by go_num, by simp; omega, (own_grown_below (HKV.out.alloc _) (Below.alloc hbq zq _) hg2 (by omega) (by simp; omega)).setCell (by show wo.heap.size ≤ wo.heap.size; omega) _, one_setCell hbx2, fs_far how2 (by omega), HN⟩
                case measure => simp [intOf]; omega
              · have HN := ne_yes hbk HK hc
                clear hbk hAk hcm
                go_wp2
                go_roundw
                case rel => exact ⟨k + 1, _, acc, by omega, by go_num, by omega, hbq, hbx, hkv, HN⟩
                case measure => simp [intOf]; omega
            · obtain rfl := ne_end (by omega) HK
              have HLW := Lib.hid (OwnL.below HLO.out hbq)
              have HSL := Lib.hid (left_len L bl)
              by_cases h128 : 128 < bl.length
              · have HZ := szK_big (K := ktF bl L mo) h128
                have hd : decide ((128 : Int) < (bl.length : Int)) = true := decide_eq_true (by omega)
                go_wp2
                exact bodyPost_ret (v := .tuple #[.slice none 0 0, .int .i64 0]) (by simp [results, Tryz.results115, go_sem]) rfl (leftR_no HZ hbt)
              · have hd : decide ((128 : Int) < (bl.length : Int)) = false := decide_eq_false (by omega)
                by_cases hK0 : ktF bl L mo = []
                · have HZ : szK bl.length (ktF bl L mo) = 0 := by rw [hK0]; rfl
                  have hk0 : (((ktF bl L mo).length : Int) == 0) = true := by rw [hK0]; rfl
                  go_wp2
                  exact bodyPost_ret (v := .tuple #[.slice none 0 0, .int .i64 0]) (by simp [results, Tryz.results115, go_sem]) rfl (leftR_no HZ hbt)
                · obtain ⟨s0, r0, hKc⟩ := List.exists_cons_of_ne_nil hK0
                  have h0 : (ktF bl L mo)[0]? = some s0 := by rw [hKc]; rfl
                  have hk0 : (((ktF bl L mo).length : Int) == 0) = false := by rw [beq_eq_false_iff_ne, hKc]; simp; omega
                  have hkp : 0 < (ktF bl L mo).length := by rw [hKc]; simp
                  obtain ⟨gk, rfl, _, hgk⟩ := hAk.resolve_left hK0
                  have HKC := Lib.hid (fun k s (hk : (ktF bl L mo)[k]? = some s) => StringL.at_ hkv rfl hk)
                  have c0 := HKC.out 0 s0 h0
                  have H0 := Lib.hid h0
                  clear hKc hK0 h0 hbx hkv hAk
                  cases hb0 : inB s0.size 1 64
                  · have HZ := szK_no (n := bl.length) H0.out (by rw [hb0, Bool.and_false, Bool.false_and])
                    go_wp2_with (go_at_call 41; refine (within_i _ _ _ _).mono ?_; rintro e w4 ⟨rfl, rfl⟩)
                    exact bodyPost_ret (v := .tuple #[.slice none 0 0, .int .i64 0]) (by simp [results, Tryz.results115, go_sem]) rfl (leftR_no HZ hbt)
                  · have HI := Lib.hid (indexL_i wo.heap.size gk ck (ktF bl L mo) s0 wr (by unfold maxLen; omega) pb H0.out HKC.out)
                    have HID := Lib.hid (idxN_all s0.size 0 (ktF bl L mo))
                    cases hsz : sizesAre s0.size (ktF bl L mo)
                    · have HZ := szK_no (n := bl.length) H0.out (by rw [hsz, Bool.and_false])
                      have hi : decide ((0 : Int) ≤ idxN s0.size 0 (ktF bl L mo)) = true := HID.out.trans (by show (!(sizesAre s0.size (ktF bl L mo))) = true; rw [hsz]; rfl)
                      generalize idxN s0.size 0 (ktF bl L mo) = y at *
                      go_wp2_with (first | (go_at_call 41; refine (within_i _ _ _ _).mono ?_; rintro e w4 ⟨rfl, rfl⟩) | (go_at_call 178; refine HI.out.mono ?_; rintro e w4 ⟨rfl, rfl⟩) | go_in)
                      exact bodyPost_ret (v := .tuple #[.slice none 0 0, .int .i64 0]) (by simp [results, Tryz.results115, go_sem]) rfl (leftR_no HZ hbt)
                    · have HZ := Lib.hid (szK_yes (n := bl.length) H0.out (by omega) hb0 hsz)
                      have hi : decide ((0 : Int) ≤ idxN s0.size 0 (ktF bl L mo)) = false := HID.out.trans (by show (!(sizesAre s0.size (ktF bl L mo))) = false; rw [hsz]; rfl)
                      generalize idxN s0.size 0 (ktF bl L mo) = y at *
                      go_wp2_with (first | (go_at_call 41; refine (within_i _ _ _ _).mono ?_; rintro e w4 ⟨rfl, rfl⟩) | (go_at_call 178; refine HI.out.mono ?_; rintro e w4 ⟨rfl, rfl⟩) | go_in)
                      go_quiet (fail)
                      go_wp2
                      exact bodyPost_ret (v := .tuple #[.slice A1 bl.length c1, .int .i64 s0.size]) (by simp [results, Tryz.results115, go_sem]) rfl ⟨_, by rw [HZ.out], fun _ => OwnL.below HLW.out (((Qt.refl _).drewN _).below _), ⟨_, _, _, rfl⟩, hbt.trans (((Qt.refl _).drewN _).below _)⟩
end Go.Proofs.YtddihmpiaemadaaGreatDoor
namespace Go.Proofs.YtddihmpiaemadaaGreatDoor
set_option linter.unusedVariables false
set_option linter.unusedSimpArgs false
open Go.RowKit
set_option maxRecDepth 20000 in
set_option maxHeartbeats 1000000 in
theorem plus_s (g c f : Nat) (l : List Nat) (s : ByteArray) (w : World) (hg : g < w.heap.size) (hB : Buf w g l) (hl1 : l.length ≤ s.size) (hs : s.size ≤ 2097152) (hf : f < 256) (hlb : ∀ x ∈ l, x < 256) :
    Calls Tryz.prog 134 #[.slice (some ⟨g, 0, none⟩) l.length c, .int .i64 f, .string s] w fun e w' => e = .returned (.tuple #[]) ∧ Buf w' g (plusN l f (bts s)) ∧ Chg g (g + 1) w w' ∧ w'.heap.size = w.heap.size := by
  have hl := bts_len s
  have hxl : (plusN l f (bts s)).length = l.length := plusN_len (by omega)
  go_enter Tryz.func134, Tryz.ntmps134
  go_wp2
  go_loopw [6] (fun i wr => ∃ k : Nat, k ≤ l.length ∧ i = .int .i64 k ∧ Chg g (g + 1) w wr ∧ wr.heap.size = w.heap.size ∧ Buf wr g (updP l (plusN l f (bts s)) k)) (fun i _ => l.length - (intOf i).toNat)
  case atStart => exact ⟨0, by omega, rfl, Chg.of_below (Below.refl _ _), rfl, by rw [upd_zero]; exact hB⟩
  case round =>
    obtain ⟨k, hk, rfl, hch, hz, HB⟩ := hrel
    by_cases hlt : k < l.length
    · have g1 := bts_get (s := s) (k := k) (by omega)
      obtain ⟨y, hy⟩ : ∃ y, l[k]? = some y := ⟨l[k], List.getElem?_eq_getElem hlt⟩
      have hyb := hlb y (List.mem_of_getElem? hy)
      have hu := upd_get (k := k) hxl hlt
      rw [hy] at hu
      obtain ⟨p1, p2⟩ := HB k _ hu
      have HS := Lib.hid (HB.set (y ^^^ gmul s[k].toNat f 0) hu)
      rw [upd_set hxl (plusN_get hy g1)] at HS
      have hgm := gmul_lt (b := f) (acc := 0) (UInt8.toNat_lt s[k]) (by omega)
      have hwr := wrap_u8_nat _ hgm
      have hx := xor_u8P y _ hyb hgm
      have hkb : k < s.size := by omega
      clear HB hu g1 hy
      have hbk := UInt8.toNat_lt s[k]
      have hww : IntKind.i64.wrap (s[k].toNat : Int) = s[k].toNat := by rw [IntKind.wrap_i64]; omega
      have hwz : IntKind.u8.wrap ((gmul s[k].toNat f 0 : Nat) : Int) = (gmul s[k].toNat f 0 : Nat) := by rw [IntKind.wrap_u8]; omega
      have HG := fun w => still_cP (gmul_s s[k].toNat f w hbk hf)
      generalize gmul s[k].toNat f 0 = z at *
      go_wp2_with (fail)
      have q1 := (show ({ wr with drawn := wr.drawn + 1 } : World).cell? _ = _ from p1)
      have q2 := (show ({ wr with drawn := wr.drawn + 1 } : World).frozen? _ = _ from p2)
      go_still_tail 13, (by kernel_rfl)
      still_call (HG _)
      repeat still_step
      refine wpStill_nil ?_
      go_wp2
      go_roundw
      case rel => exact ⟨k + 1, by omega, by go_num, ⟨hch.os, hch.tape, hch.output, by have := hch.size; simpa using this, fun i hi hne => (Below.heap_setCell _ _ _ i (by rintro rfl; exact hne ⟨Nat.le_refl _, by simp⟩)).trans (hch.block i hi hne)⟩, by simpa using hz, HS.out⟩
      case measure => simp [intOf]; omega
    · go_wp2
      refine bodyPost_end (results_none rfl _ _ _) rfl ?_
      exact ⟨rfl, by rw [upd_end hxl (by omega)] at HB; exact HB, hch, hz⟩
end Go.Proofs.YtddihmpiaemadaaGreatDoor
namespace Go.Proofs.YtddihmpiaemadaaGreatDoor
set_option linter.unusedVariables false
set_option linter.unusedSimpArgs false
open Go.RowKit

theorem emp_yesP {s : ByteArray} (h : s.size = 0) : s.toList.isEmpty = true := by
  have e := data_len s
  rw [ByteArray.toList_eq]
  cases hl : s.data.toList with
  | nil => rfl
  | cons a l => rw [hl] at e; simp at e; omega
theorem emp_noP {s : ByteArray} (h : ¬ s.size = 0) : s.toList.isEmpty = false := by
  have e := data_len s
  rw [ByteArray.toList_eq]
  cases hl : s.data.toList with
  | nil => rw [hl] at e; simp at e; omega
  | cons a l => rfl
/-- both sums over the strings l, of which the first one is number k -/
def parF (p q : List Nat) : Nat → List ByteArray → List Nat × List Nat
  | _, [] => (p, q)
  | k, s :: r => if s.size = 0 then parF p q (k + 1) r else parF (plusN p 1 (bts s)) (plusN q (gpow (m255 k)) (bts s)) (k + 1) r
theorem par_skip {p q : List Nat} {k : Nat} {l : List ByteArray} {s : ByteArray} {X : List Nat × List Nat} (hs : l[k]? = some s) (H : Hid (X = parF p q k (l.drop k))) (h : s.size = 0) : Hid (X = parF p q (k + 1) (l.drop (k + 1))) := by
  obtain ⟨hk, rfl⟩ := List.getElem?_eq_some_iff.1 hs
  exact Lib.hid (by rw [H.out, List.drop_eq_getElem_cons hk, parF, if_pos h])
theorem par_next {p q : List Nat} {k : Nat} {l : List ByteArray} {s : ByteArray} {X : List Nat × List Nat} (hs : l[k]? = some s) (H : Hid (X = parF p q k (l.drop k))) (h : ¬ s.size = 0) : Hid (X = parF (plusN p 1 (bts s)) (plusN q (gpow (m255 k)) (bts s)) (k + 1) (l.drop (k + 1))) := by
  obtain ⟨hk, rfl⟩ := List.getElem?_eq_some_iff.1 hs
  exact Lib.hid (by rw [H.out, List.drop_eq_getElem_cons hk, parF, if_neg h])
theorem par_end {p q : List Nat} {k : Nat} {l : List ByteArray} {X : List Nat × List Nat} (hk : l.length ≤ k) (H : Hid (X = parF p q k (l.drop k))) : X = (p, q) := by
  rw [H.out, List.drop_of_length_le hk, parF]
theorem parF_len {p q : List Nat} {n k : Nat} {l : List ByteArray} (hp : p.length = n) (hq : q.length = n) (hl : ∀ s ∈ l, s.size = 0 ∨ s.size = n) : (parF p q k l).1.length = n ∧ (parF p q k l).2.length = n := by
  induction l generalizing p q k with
  | nil => exact ⟨hp, hq⟩
  | cons s r ih =>
    have hr : ∀ t ∈ r, t.size = 0 ∨ t.size = n := fun t ht => hl t (List.mem_cons_of_mem _ ht)
    unfold parF
    split
    · exact ih hp hq hr
    · have := (hl s List.mem_cons_self).resolve_left (by assumption)
      have hb := bts_len s
      exact ih (by rw [plusN_len (by omega)]; exact hp) (by rw [plusN_len (by omega)]; exact hq) hr
theorem parF_lt {p q : List Nat} {k : Nat} {l : List ByteArray} (hp : ∀ x ∈ p, x < 256) (hq : ∀ x ∈ q, x < 256) : (∀ x ∈ (parF p q k l).1, x < 256) ∧ (∀ x ∈ (parF p q k l).2, x < 256) := by
  induction l generalizing p q k with
  | nil => exact ⟨hp, hq⟩
  | cons s r ih =>
    unfold parF
    split
    · exact ih hp hq
    · exact ih (plusN_lt hp bts_lt) (plusN_lt hq bts_lt)
theorem zeros_lt {n : Nat} : ∀ x ∈ List.replicate n 0, x < 256 := by
  intro x h; obtain ⟨_, rfl⟩ := List.mem_replicate.1 h; omega
theorem plus1 {p b : List Nat} : plusN p 1 b = xorN p b := by simp [plusN, xorN, gmul_one]
theorem plus_sc {p b : List Nat} {f : Nat} : plusN p f b = xorN p (scN f b) := by
  simp [plusN, xorN, scN, List.zipWith_map_right]
set_option maxHeartbeats 1000000 in
theorem parity_i (l : List ByteArray) (n : Nat) (v : Value) (w : World) (h : StrL w v l) (hm : l.length ≤ 1048576) (hl : ∀ s ∈ l, s.size = 0 ∨ s.size = n) (hn : n ≤ 1048576) :
    Calls Tryz.prog 116 #[v, .int .i64 n] w fun e w' => e = .returned (.tuple #[.string (strN (parF (List.replicate n 0) (List.replicate n 0) 0 l).1), .string (strN (parF (List.replicate n 0) (List.replicate n 0) 0 l).2)]) ∧ Below w.heap.size w w' := by
  obtain ⟨A, c, rfl, hA⟩ := h
  go_enter Tryz.func116, Tryz.ntmps116
  go_wp2_with (fail)
  refine (zeros_i n _ (by omega)).mono ?_; rintro e w1 ⟨rfl, hb1⟩
  go_wp2_with (fail)
  refine (zeros_i n _ (by omega)).mono ?_; rintro e w2 ⟨rfl, hb2⟩
  go_wp2
  have hz1 := hb1.size
  have hz2 := hb2.size
  have hB : Below w.heap.size w w2 := hb1.trans (hb2.mono hz1)
  go_loopw [16, 6, 7] (fun i x y wr => ∃ (k : Nat) (p q : List Nat), k ≤ l.length ∧ i = .int .i64 k ∧ x = .string (strN p) ∧ y = .string (strN q) ∧ p.length = n ∧ q.length = n ∧ (∀ x ∈ p, x < 256) ∧ (∀ x ∈ q, x < 256) ∧ Below w.heap.size w wr ∧ Hid (parF (List.replicate n 0) (List.replicate n 0) 0 l = parF p q k (l.drop k))) (fun i _ _ _ => l.length - (intOf i).toNat)
  case atStart => exact ⟨0, _, _, by omega, rfl, rfl, rfl, by simp, by simp, zeros_lt, zeros_lt, hB, Lib.hid rfl⟩
  case round =>
    obtain ⟨k, p, q, hk, rfl, rfl, rfl, hp, hq, bp, bq, hb, HK⟩ := hrel
    by_cases hlt : k < l.length
    · obtain ⟨s, hs⟩ : ∃ s, l[k]? = some s := ⟨l[k], List.getElem?_eq_getElem hlt⟩
      obtain ⟨g, rfl, hg, hc⟩ := hA.resolve_left (by rintro rfl; simp at hlt)
      have hsn := hl s (List.mem_of_getElem? hs)
      have pk := (hb.cell (p := ⟨g, k, none⟩) hg).trans (hc k s hs)
      have hsl := bts_len s
      have zr := hb.size
      have HS := Lib.hid hs
      clear hs hc hA
      by_cases h0 : s.size = 0
      · have hne := emp_yesP h0
        go_wp2
        go_roundw
        case rel => exact ⟨k + 1, p, q, by omega, by go_num, rfl, rfl, hp, hq, bp, bq, hb, par_skip HS.out HK h0⟩
        case measure => simp [intOf]; omega
      · have hne := emp_noP h0
        have hsn' := hsn.resolve_left h0
        have hxp : xorN p (bts s) = plusN p 1 (bts s) := plus1.symm
        have hxq : xorN q (scN (gpow (m255 k)) (bts s)) = plusN q (gpow (m255 k)) (bts s) := plus_sc.symm
        have X1 := fun w => xor_i (strN p) s w (by rw [strN_size]; omega) (by omega)
        have X2 := fun w => scaled_i s k w (by omega) (by omega)
        have X3 := fun w => xor_i (strN q) (strN (scN (gpow (m255 k)) (bts s))) w (by rw [strN_size, strN_size, scN_len]; omega) (by rw [strN_size, scN_len]; omega)
        rw [bts_strN bp, hxp] at X1
        rw [bts_strN bq, bts_strN (scN_lt bts_lt), hxq] at X3
        have l1 := plusN_len (a := p) (f := 1) (b := bts s) (by omega)
        have l2 := plusN_len (a := q) (f := gpow (m255 k)) (b := bts s) (by omega)
        have HX1 := Lib.hid X1
        have HX2 := Lib.hid X2
        have HX3 := Lib.hid X3
        clear X1 X2 X3 hxp hxq
        go_wp2_with (fail)
        refine (HX1.out _).mono ?_; rintro e w3 ⟨rfl, hb3⟩
        go_wp2_with (go_at_call 120; refine (HX2.out _).mono ?_; rintro e w4 ⟨rfl, hb4⟩)
        refine (HX3.out _).mono ?_; rintro e w5 ⟨rfl, hb5⟩
        have z3 := hb3.size
        have z4 := hb4.size
        go_wp2
        go_roundw
        case rel => exact ⟨k + 1, _, _, by omega, by go_num, rfl, rfl, by omega, by omega, plusN_lt bp bts_lt, plusN_lt bq bts_lt, (by repeat (first | exact Below.refl _ _ | refine Below.alloc ?_ (by first | omega | (simp; done) | (simp; omega)) _ | apply Below.drew | apply below_drewN | refine Below.setCell ?_ (by first | omega | (simp; done) | (simp; omega)) _ | refine Below.trans ?_ (Below.mono (by assumption) (by first | omega | (simp; done) | (simp; omega))))), par_next HS.out HK h0⟩
        case measure => simp [intOf]; omega
    · go_wp2
      have HE := par_end (by omega) HK
      rw [HE]
      exact bodyPost_ret (by simp [results, Tryz.results116, go_sem]; try rfl) rfl ⟨rfl, hb⟩
end Go.Proofs.YtddihmpiaemadaaGreatDoor
