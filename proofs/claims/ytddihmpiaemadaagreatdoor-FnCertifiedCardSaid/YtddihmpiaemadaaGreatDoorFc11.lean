/- reduce with the topmost bit: the walk. l25Reduce: the walk. l25Solved, FreeBits, impl and spec: the walks. How many bits of a number are 1: whether that is odd. Plain laws. -/
import Derived.Test.YtddihmpiaemadaaGreatDoorFc10
import Derived.Test.YtddihmpiaemadaaGreatDoorFc08
namespace Go.Proofs.YtddihmpiaemadaaGreatDoor
set_option linter.unusedVariables false
set_option linter.unusedSimpArgs false
open Go.RowKit
def clrT (q kn : Rw) : Rw := clr (fun _ => top q.m) kn q
theorem clrT_yes {q kn : Rw} (h : kn.m.testBit (top q.m) = true) : clrT q kn = kn.add q := by rw [clrT, clr, if_pos h]
theorem clrT_no {q kn : Rw} (h : kn.m.testBit (top q.m) = false) : clrT q kn = kn := by rw [clrT, clr, if_neg (by rw [h]; decide)]
set_option maxRecDepth 20000 in
set_option maxHeartbeats 8000000 in
theorem red_i (l : List Rw) (v : Value) (w : World) (h : RowsAt .i64 w v l) (hl : ∀ e ∈ l, e.m < 18446744073709551616) (hn : l.length ≤ 1048576) :
    Calls Tryz.prog 145 #[v, .func (.func 147) #[] #[]] w fun e w' => redQ 197 .i64 w (redI top [] l) e w' := by
  obtain ⟨i0, hi, hz0, hz1, hz2⟩ := info_parts rowi_info
  obtain ⟨A, cA, rfl, hA⟩ := h
  have HL := Lib.hid hl
  clear hl
  go_enter Tryz.func145, Tryz.ntmps145
  go_wp2
  go_loopw [15, 6] (fun i x wr => ∃ (k : Nat) (ol : List Rw), k ≤ l.length ∧ i = .int .i64 k ∧ ol.length ≤ k ∧ Below w.heap.size w wr ∧ Hid (RowL .i64 197 w.heap.size wr x ol) ∧ Hid (Red top ol) ∧ Hid (redI top [] l = redI top ol (l.drop k))) (fun i _ _ => l.length - (intOf i).toNat)
  case atStart => exact ⟨0, [], by omega, rfl, by simp, Below.refl _ _, Lib.hid OwnL.of_nil, Lib.hid Red.nil, Lib.hid rfl⟩
  case round =>
    obtain ⟨k, ol, hk, rfl, holk, hb, HO, HR, HK⟩ := hrel
    have zr := hb.size
    obtain ⟨Ax, cx, rfl, hAx⟩ := OwnL.shape HO.out
    by_cases hlt : k < l.length
    · obtain ⟨r, hr⟩ : ∃ r, l[k]? = some r := ⟨l[k], List.getElem?_eq_getElem hlt⟩
      obtain ⟨g, rfl, hg, hcc⟩ := hA.resolve_left (by intro h0; rw [h0] at hlt; simp at hlt)
      have p0 := (hb.cell (p := ⟨g, _, none⟩) hg).trans (hcc k r hr).1
      have p1 := (hb.cell (p := ⟨g, _, none⟩) hg).trans (hcc k r hr).2
      have hrl := HL.out r (List.mem_of_getElem? hr)
      have HX := Lib.hid hr
      have HOLT := Lib.hid (fun e he => show e.m < 18446744073709551616 from HR.out.lt e he)
      have HFC := Lib.hid (fold_clr ol r HR.out (u := 64) (fun e he => HR.out.lt e he) hrl)
      clear hr
      have hob : Below wr.heap.size wr (wr.alloc (.cells #[.int .u64 r.m, .int .i64 (bi r.r)] 197)) := Below.alloc (Below.refl _ _) (Nat.le_refl _) _
      have b0 : (wr.alloc (.cells #[.int .u64 r.m, .int .i64 (bi r.r)] 197)).cell? ⟨wr.heap.size, 0, none⟩ = some (.int .u64 r.m) := by simp [go_sem]
      have b1 : (wr.alloc (.cells #[.int .u64 r.m, .int .i64 (bi r.r)] 197)).cell? ⟨wr.heap.size, 1, none⟩ = some (.int .i64 (bi r.r)) := by simp [go_sem]
      have f0 : (wr.alloc (.cells #[.int .u64 r.m, .int .i64 (bi r.r)] 197)).frozen? ⟨wr.heap.size, 0, none⟩ = false := by simp [go_sem]
      have f1 : (wr.alloc (.cells #[.int .u64 r.m, .int .i64 (bi r.r)] 197)).frozen? ⟨wr.heap.size, 1, none⟩ = false := by simp [go_sem]
      have zz : wr.heap.size < (wr.alloc (.cells #[.int .u64 r.m, .int .i64 (bi r.r)] 197)).heap.size := by simp
      go_wp2
      generalize hwo : wr = wo at *; clear hwo
      go_loopw [21] (fun i wr => ∃ (j : Nat) (q : Rw), j ≤ ol.length ∧ i = .int .i64 j ∧ Below wo.heap.size wo wr ∧ wo.heap.size < wr.heap.size ∧ q.m < 18446744073709551616 ∧ wr.cell? ⟨wo.heap.size, 0, none⟩ = some (.int .u64 q.m) ∧ wr.cell? ⟨wo.heap.size, 1, none⟩ = some (.int .i64 (bi q.r)) ∧ wr.frozen? ⟨wo.heap.size, 0, none⟩ = false ∧ wr.frozen? ⟨wo.heap.size, 1, none⟩ = false ∧ Hid (ol.foldl (clr top) r = (ol.drop j).foldl (clr top) q)) (fun i _ => ol.length - (intOf i).toNat)
      case atStart => exact ⟨0, r, by omega, rfl, hob, zz, hrl, b0, b1, f0, f1, Lib.hid rfl⟩
      case round =>
        clear hob b0 b1 f0 f1 zz
        obtain ⟨j, q, hj, rfl, hob, zz, hql, b0, b1, f0, f1, HF⟩ := hrel
        by_cases hltj : j < ol.length
        · obtain ⟨kn, hkn⟩ : ∃ kn, ol[j]? = some kn := ⟨ol[j], List.getElem?_eq_getElem hltj⟩
          obtain ⟨gx, rfl, hgx1, hgx2⟩ := hAx.resolve_left (by intro h0; rw [h0] at hltj; simp at hltj)
          have k0 := (hob.cell (p := ⟨gx, _, none⟩) hgx2).trans (OwnL.at1 (rc_len .i64) HO.out hkn (j := 0) rfl)
          have k1 := (hob.cell (p := ⟨gx, _, none⟩) hgx2).trans (OwnL.at1 (rc_len .i64) HO.out hkn (j := 1) rfl)
          simp only [Nat.add_zero] at k0
          have hknl := HOLT.out kn (List.mem_of_getElem? hkn)
          have hkn0 : kn.m ≠ 0 := by
            intro e0
            have := HR.out.on kn (List.mem_of_getElem? hkn)
            rw [e0] at this; simp at this
          have HT := Lib.hid (fun w' => top_i kn.m w' hkn0 hknl)
          have htl := top_lt hkn0 hknl
          obtain ⟨x0, x1, x2, x3, x4, x5⟩ := box2 wr (.int .u64 kn.m) (.int .i64 (bi kn.r)) 197
          have hob' := hob.trans (x4.mono (by omega))
          have b0' := (x4.cell (p := ⟨wo.heap.size, 0, none⟩) zz).trans b0
          have b1' := (x4.cell (p := ⟨wo.heap.size, 1, none⟩) zz).trans b1
          have f0' := (x4.frozen (p := ⟨wo.heap.size, 0, none⟩) zz).trans f0
          have f1' := (x4.frozen (p := ⟨wo.heap.size, 1, none⟩) zz).trans f1
          have hpw : 2 ^ top kn.m < 18446744073709551616 := Nat.lt_of_lt_of_le (Nat.pow_lt_pow_right (by omega) htl) (by decide)
          have hand := u64_and_nat q.m (2 ^ top kn.m) hql hpw
          rw [and_pow_eq] at hand
          cases ht : q.m.testBit (top kn.m)
          · rw [ht, if_neg (by decide)] at hand
            have HN := fo_no hkn HF ht
            have hand0 : bits .and .u64 (q.m : Int) ((2 ^ top kn.m : Nat) : Int) = 0 := hand
            generalize 2 ^ top kn.m = pw at *
            clear hkn ht hand x2 x3 x1
            go_wp2
            refine region_s0 (by kernel_rfl) (by kernel_rfl) (fun w8 hw8 => ?_)
            rw [← hw8] at x0 x5 b0' b1' f0' f1' hob'
            clear hw8 x4 b0 b1 f0 f1 hob
            repeat still_step
            still_call (still_c (HT.out _))
            repeat still_step
            refine wpStill_nil ?_
            go_wp2
            go_roundw
            case rel => exact ⟨j + 1, q, by omega, by go_num, hob', by omega, hql, b0', b1', f0', f1', HN⟩
            case measure => simp [intOf]; omega
          · rw [ht, if_pos rfl] at hand
            have HN := fo_yes hkn HF ht
            have hp0 : (((2 ^ top kn.m : Nat) : Int) != 0) = true := by
              have := Nat.two_pow_pos (top kn.m)
              rw [bne_iff_ne]; omega
            have hxm := u64_xor_nat q.m kn.m hql hknl
            have hxr := bi_xor q.r kn.r
            have hql' := xor64 hql hknl
            generalize 2 ^ top kn.m = pw at *
            clear hkn ht x2 x3
            go_wp2
            refine region_s0 (by kernel_rfl) (by kernel_rfl) (fun w8 hw8 => ?_)
            rw [← hw8] at x0 x1 x5 b0' b1' f0' f1' hob'
            clear hw8 x4 b0 b1 f0 f1 hob
            repeat still_step
            still_call (still_c (HT.out _))
            repeat still_step
            refine wpStill_nil ?_
            go_wp2
            go_roundw
            case rel => exact ⟨j + 1, q.add kn, by omega, by go_num, Below.setCell (Below.setCell hob' (Nat.le_refl _) _) (Nat.le_refl _) _, by simp; omega, hql', by simp [go_sem, b0', b1']; rfl, by simp [go_sem, b0', b1']; rfl, by rw [World.frozen?_setCell, World.frozen?_setCell]; exact f0', by rw [World.frozen?_setCell, World.frozen?_setCell]; exact f1', HN⟩
            case measure => simp [intOf]; omega
        · obtain rfl : j = ol.length := by omega
          have HQ := Lib.hid (fo_end (Nat.le_refl _) HF)
          have HP := HFC.out
          rw [HQ.out] at HP
          obtain ⟨_, _, h3, _⟩ := HP
          clear HF HFC p0 p1
          cases hz : decide (q.m = 0)
          · have hm0 := of_decide_eq_false hz
            have HMO := Lib.hid (HR.out.more piv_top hm0 hql h3)
            have HN := rd_more HX.out HK HQ.out hm0
            have HT := Lib.hid (fun w' => top_i q.m w' hm0 hql)
            have htl := top_lt hm0 hql
            have hpw : 2 ^ top q.m < 18446744073709551616 := Nat.lt_of_lt_of_le (Nat.pow_lt_pow_right (by omega) htl) (by decide)
            have hq0 : ((q.m : Int) == 0) = false := by rw [beq_eq_false_iff_ne]; omega
            have hmap : ol.map (fun k => clr (fun _ => top q.m) k q) = ol.map (clrT q) := rfl
            rw [hmap] at HMO HN
            have HO3 : Hid (RowL .i64 197 w.heap.size wr (.slice Ax ol.length cx) (mapT (clrT q) 0 ol)) := by rw [mapT_zero]; exact Lib.hid (HO.out.below hob)
            have hbb := hb.trans (hob.mono zr)
            have zo := hob.size
            clear HO hz hmap hob hb HR HX HK HQ h3
            go_wp2
            generalize hwp : wr = wp at *; clear hwp
            go_loopw [53] (fun i wr => ∃ j : Nat, j ≤ ol.length ∧ i = .int .i64 j ∧ Below w.heap.size w wr ∧ wo.heap.size < wr.heap.size ∧ wr.cell? ⟨wo.heap.size, 0, none⟩ = some (.int .u64 q.m) ∧ wr.cell? ⟨wo.heap.size, 1, none⟩ = some (.int .i64 (bi q.r)) ∧ Hid (RowL .i64 197 w.heap.size wr (.slice Ax ol.length cx) (mapT (clrT q) j ol))) (fun i _ => ol.length - (intOf i).toNat)
            case atStart => exact ⟨0, by omega, rfl, hbb, zz, b0, b1, HO3⟩
            case round =>
              clear HO3 hbb zz b0 b1 f0 f1
              obtain ⟨j, hj, rfl, hb, zz, b0, b1, HO⟩ := hrel
              have zw := hb.size
              by_cases hltj : j < ol.length
              · obtain ⟨kn, hkn⟩ : ∃ kn, ol[j]? = some kn := ⟨ol[j], List.getElem?_eq_getElem hltj⟩
                obtain ⟨gx, rfl, hgx1, hgx2⟩ := hAx.resolve_left (by intro h0; rw [h0] at hltj; simp at hltj)
                have hkT := mapT_get (F := clrT q) hkn
                have k0 := OwnL.at1 (rc_len .i64) HO.out hkT (j := 0) rfl
                have k1 := OwnL.at1 (rc_len .i64) HO.out hkT (j := 1) rfl
                simp only [Nat.add_zero] at k0
                have hknl := HOLT.out kn (List.mem_of_getElem? hkn)
                obtain ⟨x0, x1, x2, x3, x4, x5⟩ := box2 wr (.int .u64 kn.m) (.int .i64 (bi kn.r)) 197
                have hb' := hb.trans (x4.mono zw)
                have b0' := (x4.cell (p := ⟨wo.heap.size, 0, none⟩) zz).trans b0
                have b1' := (x4.cell (p := ⟨wo.heap.size, 1, none⟩) zz).trans b1
                have HO' := Lib.hid (OwnL.below HO.out x4)
                have hand := u64_and_nat kn.m (2 ^ top q.m) hknl hpw
                rw [and_pow_eq] at hand
                cases ht : kn.m.testBit (top q.m)
                · rw [ht, if_neg (by decide)] at hand
                  have hand0 : bits .and .u64 (kn.m : Int) ((2 ^ top q.m : Nat) : Int) = 0 := hand
                  rw [← mapT_same hkn (clrT_no ht)] at HO'
                  generalize 2 ^ top q.m = pw at *
                  clear hkn hkT ht hand x2 x3 x1
                  go_wp2
                  refine region_s0 (by kernel_rfl) (by kernel_rfl) (fun w8 hw8 => ?_)
                  rw [← hw8] at x0 x5 b0' b1' hb' HO'
                  clear hw8 x4 b0 b1 hb HO
                  repeat still_step
                  still_call (still_c (HT.out _))
                  repeat still_step
                  refine wpStill_nil ?_
                  go_wp2
                  go_roundw
                  case rel => exact ⟨j + 1, by omega, by go_num, hb', by omega, b0', b1', HO'⟩
                  case measure => simp [intOf]; omega
                · rw [ht, if_pos rfl] at hand
                  have hp0 : (((2 ^ top q.m : Nat) : Int) != 0) = true := by
                    have := Nat.two_pow_pos (top q.m)
                    rw [bne_iff_ne]; omega
                  have hxm := u64_xor_nat kn.m q.m hknl hql
                  have hxr := bi_xor kn.r q.r
                  generalize 2 ^ top q.m = pw at *
                  have HM := Lib.hid (mapT_next (F := clrT q) hkn)
                  rw [clrT_yes ht] at HM
                  have HT2 := Lib.hid hkT
                  have hgw : gx < wr.heap.size := Nat.lt_trans hgx2 zz
                  have k0' := (x4.cell (p := ⟨gx, _, none⟩) hgw).trans k0
                  have k1' := (x4.cell (p := ⟨gx, _, none⟩) hgw).trans k1
                  clear hkn hkT ht x2 x3
                  go_wp2
                  refine region_s0 (by kernel_rfl) (by kernel_rfl) (fun w8 hw8 => ?_)
                  rw [← hw8] at x0 x1 x5 b0' b1' hb' HO' k0' k1'
                  clear hw8 x4 b0 b1 hb HO
                  repeat still_step
                  still_call (still_c (HT.out _))
                  repeat still_step
                  refine wpStill_nil ?_
                  have HS := Lib.hid (OwnL.set2 (a' := kn.add q) HO'.out HT2.out)
                  rw [HM.out] at HS
                  have z0 := fun j => OwnL.frozen (j := j) HO'.out
                  go_wp2
                  go_roundw
                  case rel => exact ⟨j + 1, by omega, by go_num, Below.setCell (Below.setCell hb' hgx1 _) hgx1 _, by simp; omega, by rw [World.cell?_setCell_other _ _ _ _ (by intro e; injection e with e _ _; omega), World.cell?_setCell_other _ _ _ _ (by intro e; injection e with e _ _; omega)]; exact b0', by rw [World.cell?_setCell_other _ _ _ _ (by intro e; injection e with e _ _; omega), World.cell?_setCell_other _ _ _ _ (by intro e; injection e with e _ _; omega)]; exact b1', HS⟩
                  case measure => simp [intOf]; omega
              · obtain rfl : j = ol.length := by omega
                rw [mapT_end] at HO
                have hml : (ol.map (clrT q)).length ≤ 1048576 := by simp; omega
                go_wp2_with (at_builtin; refine wpList_app1 (rc .i64) 2 (rc_len .i64) _ rfl _ _ _ rfl w.heap.size 197 i0 (.agg #[.int .u64 0, .int .i64 0]) 16 Tryz.underlying191 hi hz0 hz1 hz2 rfl (by decide) _ (ol.map (clrT q)) rfl (HO.out.alloc _) _ 1 q rfl ?_ (rc_one .i64 _) (by omega) (by omega) (by simp; omega) ?_; (· exact rowc_news .i64 q.m q.r (by simp) (by simp)); intro v' w8 how8 hg8; have hg8' : Below w.heap.size w w8 := own_grown_below (HO.out.alloc (.cells #[.int .u64 q.m, .int .i64 (bi q.r)] 197)) (Below.alloc hb zw _) hg8 (Nat.le_refl _) (by simp; omega); clear hg8)
                go_roundw
                case rel => exact ⟨k + 1, ol.map (clrT q) ++ [q], by omega, by go_num, by simp; omega, hg8', Lib.hid how8, HMO, HN⟩
                case measure => simp [intOf]; omega
          · have hm0 := of_decide_eq_true hz
            cases hq : q.r
            · have HN := rd_skip HX.out HK HQ.out hm0 hq
              rw [hm0] at b0
              rw [hq, bi_f] at b1
              clear hz hm0 hq
              go_wp2
              go_roundw
              case rel => exact ⟨k + 1, ol, by omega, by go_num, by omega, hb.trans (hob.mono zr), Lib.hid (HO.out.below hob), HR, HN⟩
              case measure => simp [intOf]; omega
            · have HE := rd_none HX.out HK HQ.out hm0 hq
              rw [hm0] at b0
              rw [hq, bi_t] at b1
              clear hz hm0 hq
              go_wp2
              exact bodyPost_ret (v := .tuple #[.slice none 0 0, .bool false]) (by simp [results, Tryz.results145, go_sem] <;> rfl) rfl ⟨_, by rw [HE]; rfl, by rw [HE]; exact OwnL.of_nil, hb.trans (hob.mono zr)⟩
    · have HE := rd_end (by omega) HK
      have HO2 := HO.out
      go_wp2
      exact bodyPost_ret (v := .tuple #[.slice Ax ol.length cx, .bool true]) (by simp [results, Tryz.results145, go_sem] <;> rfl) rfl ⟨_, by rw [HE]; rfl, by rw [HE]; exact HO2, hb⟩
end Go.Proofs.YtddihmpiaemadaaGreatDoor
namespace Go.Proofs.YtddihmpiaemadaaGreatDoor
set_option linter.unusedVariables false
set_option linter.unusedSimpArgs false
open Go.RowKit
/-- how far the search for the first row with bit k has come -/
def SeekK (lst : List Rw) (k i : Nat) (x : Int) : Prop := (x = -1 ∧ ∀ j e, j < i → lst[j]? = some e → e.m.testBit k = false) ∨ (∃ a : Nat, x = a ∧ a < i ∧ lst.findIdx? (fun e => e.m.testBit k) = some a)
theorem OwnL.cap {α : Type} {f : α → List Value} {z : Nat} {e : TypeId} {B g n c : Nat} {w : World} {l : List α} (h : OwnL f z e B w (.slice (some ⟨g, 0, none⟩) n c) l) : n ≤ c ∧ c ≤ maxLen := by
  have hn : l.length = n := by
    obtain ⟨A, c', h1, _⟩ := h.shape
    injection h1 with _ h1 _; exact h1.symm
  rcases h.2 with ⟨h', _⟩ | ⟨g', cap, cur, h', _, _, hnc, hm, _⟩
  · cases h'
  · injection h' with _ _ h3
    subst h3
    exact ⟨by omega, hm⟩
end Go.Proofs.YtddihmpiaemadaaGreatDoor
namespace Go.Proofs.YtddihmpiaemadaaGreatDoor
set_option linter.unusedVariables false
set_option linter.unusedSimpArgs false
open Go.RowKit
def restOf (s : ByteArray) (u : List Nat) (c : Nat) : Nat := crcN (clrN (bts s) u) 65535 ^^^ c
def rowsOf (s : ByteArray) (u : List Nat) (c : Nat) : List Rw := rowsR s.size u (restOf s u c)
theorem rowsOf_lt {s : ByteArray} {u : List Nat} {c : Nat} (h : u.length ≤ 64) : ∀ e ∈ rowsOf s u c, e.m < 18446744073709551616 := fun e he =>
  Nat.lt_of_lt_of_le (rowsR_lt _ _ _ e he) (Nat.pow_le_pow_right (n := 2) (by omega) h)
theorem rowsOf_len (s : ByteArray) (u : List Nat) (c : Nat) : (rowsOf s u c).length = 16 := rowsR_len _ _ _
def cdO (X : Option (List Rw)) : Int := match X with | none => 3 | some _ => 0
def frE (s : ByteArray) (l : List Int) (c : Int) : Int × Int := if unkOk s l c then (match redS (rowsOf s (l.map Int.toNat) c.toNat) with | none => (0, 3) | some x => ((l.length : Int) - x.length, 0)) else (0, 1)
def frV (s : ByteArray) (l : List Int) (c : Int) : Value := .tuple #[.int .i64 (frE s l c).1, .int .i64 (frE s l c).2]
end Go.Proofs.YtddihmpiaemadaaGreatDoor
namespace Go.Proofs.YtddihmpiaemadaaGreatDoor
set_option linter.unusedVariables false
set_option linter.unusedSimpArgs false

def par (n m : Nat) : Bool := dotN n m (fun _ => true)
theorem and_split (A a M m : Nat) (ha : a < 256) (hm : m < 256) : (256 * A + a) &&& (256 * M + m) = 256 * (A &&& M) + (a &&& m) := by
  have hc : a &&& m < 256 := Nat.lt_of_le_of_lt Nat.and_le_left ha
  refine Nat.eq_of_testBit_eq fun i => ?_
  rw [show (256 : Nat) = 2 ^ 8 from rfl] at *
  rw [Nat.testBit_and, Nat.testBit_two_pow_mul_add _ ha, Nat.testBit_two_pow_mul_add _ hm, Nat.testBit_two_pow_mul_add _ hc]
  split <;> rw [Nat.testBit_and]
/-- a byte, n times -/
def rep (c : Nat) : Nat → Nat
  | 0 => 0
  | n + 1 => 256 * rep c n + c
/-- the sum of the bytes' values by a function -/
def byS (g : Nat → Nat) : Nat → Nat → Nat
  | 0, _ => 0
  | n + 1, x => 256 * byS g n (x / 256) + g (x % 256)
def p1 (x M : Nat) : Nat := (x / 2 &&& M) + (x &&& M)
def p2 (x M : Nat) : Nat := (x / 4 &&& M) + (x &&& M)
def p3 (x M : Nat) : Nat := (x / 16 + x) &&& M
theorem p1_byte : ∀ t : Fin 2, ∀ a : Fin 256, ((128 * t.val + a.val / 2) &&& 0x55) + (a.val &&& 0x55) = p1 a.val 0x55 ∧ p1 a.val 0x55 < 256 := by decide +kernel
theorem p2_byte : ∀ t : Fin 4, ∀ a : Fin 256, ((64 * t.val + a.val / 4) &&& 0x33) + (a.val &&& 0x33) = p2 a.val 0x33 ∧ p2 a.val 0x33 < 256 := by decide +kernel
theorem p3_byte : ∀ t : Fin 5, ∀ a : Fin 256, (16 * t.val + a.val / 16 + a.val) &&& 0x0f = p3 a.val 0x0f := by decide +kernel
theorem p12_byte : ∀ a : Fin 256, p2 (p1 a.val 0x55) 0x33 % 16 ≤ 4 ∧ p2 (p1 a.val 0x55) 0x33 / 16 ≤ 4 ∧ p3 (p2 (p1 a.val 0x55) 0x33) 0x0f ≤ 8 ∧ (p3 (p2 (p1 a.val 0x55) 0x33) 0x0f % 2 == 1) = par 8 a.val := by decide +kernel
theorem p1_by (n x : Nat) (hx : x < 256 ^ n) : p1 x (rep 0x55 n) = byS (fun a => p1 a 0x55) n x := by
  induction n generalizing x with
  | zero => have : x = 0 := by simpa using hx
            subst this; rfl
  | succ n ih =>
    have hA : x / 256 < 256 ^ n := Nat.div_lt_of_lt_mul (by rw [Nat.pow_succ] at hx; rwa [Nat.mul_comm])
    have hb := p1_byte ⟨x / 256 % 2, Nat.mod_lt _ (by omega)⟩ ⟨x % 256, Nat.mod_lt _ (by omega)⟩
    simp only at hb
    rw [byS, ← ih _ hA]
    unfold p1 at *
    rw [rep]
    have e1 : x / 2 = 256 * (x / 256 / 2) + (128 * (x / 256 % 2) + x % 256 / 2) := by omega
    have e2 : x = 256 * (x / 256) + x % 256 := by omega
    rw [e1, and_split _ _ _ _ (by omega) (by omega)]
    conv => lhs; rhs; rw [e2, and_split _ _ _ _ (by omega) (by omega)]
    omega
theorem p2_by (n x : Nat) (hx : x < 256 ^ n) : p2 x (rep 0x33 n) = byS (fun a => p2 a 0x33) n x := by
  induction n generalizing x with
  | zero => have : x = 0 := by simpa using hx
            subst this; rfl
  | succ n ih =>
    have hA : x / 256 < 256 ^ n := Nat.div_lt_of_lt_mul (by rw [Nat.pow_succ] at hx; rwa [Nat.mul_comm])
    have hb := p2_byte ⟨x / 256 % 4, Nat.mod_lt _ (by omega)⟩ ⟨x % 256, Nat.mod_lt _ (by omega)⟩
    simp only at hb
    rw [byS, ← ih _ hA]
    unfold p2 at *
    rw [rep]
    have e1 : x / 4 = 256 * (x / 256 / 4) + (64 * (x / 256 % 4) + x % 256 / 4) := by omega
    have e2 : x = 256 * (x / 256) + x % 256 := by omega
    rw [e1, and_split _ _ _ _ (by omega) (by omega)]
    conv => lhs; rhs; rw [e2, and_split _ _ _ _ (by omega) (by omega)]
    omega
/-- every byte of x has a property -/
def byA (p : Nat → Prop) : Nat → Nat → Prop
  | 0, _ => True
  | n + 1, x => p (x % 256) ∧ byA p n (x / 256)
theorem byS_lt {g : Nat → Nat} (hg : ∀ a, a < 256 → g a < 256) (n x : Nat) : byS g n x < 256 ^ n := by
  induction n generalizing x with
  | zero => show 0 < 1; omega
  | succ n ih =>
    have h1 := ih (x / 256)
    have h2 := hg (x % 256) (Nat.mod_lt _ (by omega))
    rw [byS, Nat.pow_succ]; omega
theorem byS_at {g : Nat → Nat} (hg : ∀ a, a < 256 → g a < 256) (n x : Nat) : byS g (n + 1) x % 256 = g (x % 256) ∧ byS g (n + 1) x / 256 = byS g n (x / 256) := by
  have h2 := hg (x % 256) (Nat.mod_lt _ (by omega))
  rw [byS]; omega
theorem byS_comp {g h : Nat → Nat} (hg : ∀ a, a < 256 → g a < 256) (n x : Nat) : byS h n (byS g n x) = byS (fun a => h (g a)) n x := by
  induction n generalizing x with
  | zero => rfl
  | succ n ih =>
    obtain ⟨h1, h2⟩ := byS_at hg n x
    conv => lhs; rw [byS]
    rw [h1, h2, ih]; rfl
theorem p3_by (n x : Nat) (hx : x < 256 ^ n) (h : byA (fun a => a % 16 ≤ 4 ∧ a / 16 ≤ 4) n x) : p3 x (rep 0x0f n) = byS (fun a => p3 a 0x0f) n x := by
  induction n generalizing x with
  | zero => have : x = 0 := by simpa using hx
            subst this; rfl
  | succ n ih =>
    have hA : x / 256 < 256 ^ n := Nat.div_lt_of_lt_mul (by rw [Nat.pow_succ] at hx; rwa [Nat.mul_comm])
    obtain ⟨⟨ha1, ha2⟩, hr⟩ := h
    have ht : x / 256 % 16 ≤ 4 := by
      cases n with
      | zero => have : x / 256 = 0 := by simpa using hA
                omega
      | succ n => have := hr.1.1; omega
    have hb := p3_byte ⟨x / 256 % 16, by omega⟩ ⟨x % 256, Nat.mod_lt _ (by omega)⟩
    simp only at hb
    rw [byS, ← ih _ hA hr]
    unfold p3 at *
    rw [rep]
    have e1 : x / 16 + x = 256 * (x / 256 / 16 + x / 256) + (16 * (x / 256 % 16) + x % 256 / 16 + x % 256) := by omega
    rw [e1, and_split _ _ _ _ (by omega) (by omega), hb]
theorem byA_S {g : Nat → Nat} {p : Nat → Prop} (hg : ∀ a, a < 256 → g a < 256) (hp : ∀ a, a < 256 → p (g a)) (n x : Nat) : byA p n (byS g n x) := by
  induction n generalizing x with
  | zero => trivial
  | succ n ih =>
    obtain ⟨h1, h2⟩ := byS_at hg n x
    refine ⟨?_, ?_⟩
    · rw [h1]; exact hp _ (Nat.mod_lt _ (by omega))
    · rw [h2]; exact ih _
theorem dotN_add (n k m : Nat) : par (n + k) m = (par n m ^^ par k (m / 2 ^ n)) := by
  induction k with
  | zero => simp [par, dotN]
  | succ k ih =>
    unfold par at *
    rw [← Nat.add_assoc, dotN, ih, dotN, Nat.testBit_div_two_pow, Nat.add_comm k n, Bool.xor_assoc]
theorem par_mod (m : Nat) : par 8 (m % 256) = par 8 m := by
  unfold par
  simp only [dotN, show (256 : Nat) = 2 ^ 8 from rfl, Nat.testBit_mod_two_pow]
  simp
def popB (a : Nat) : Nat := p3 (p2 (p1 a 0x55) 0x33) 0x0f
theorem popB_ok (a : Nat) (h : a < 256) : popB a ≤ 8 ∧ (popB a % 2 == 1) = par 8 a := ⟨(p12_byte ⟨a, h⟩).2.2.1, (p12_byte ⟨a, h⟩).2.2.2⟩
/-- the three steps within the bytes -/
theorem pop_by (x : Nat) (hx : x < 256 ^ 8) : p3 (p2 (p1 x (rep 0x55 8)) (rep 0x33 8)) (rep 0x0f 8) = byS popB 8 x := by
  have g1 : ∀ a, a < 256 → p1 a 0x55 < 256 := fun a h => (p1_byte ⟨0, by omega⟩ ⟨a, h⟩).2
  have g2 : ∀ a, a < 256 → p2 a 0x33 < 256 := fun a h => (p2_byte ⟨0, by omega⟩ ⟨a, h⟩).2
  rw [p1_by 8 x hx, p2_by 8 _ (byS_lt g1 8 x), byS_comp g1, p3_by 8 _ (byS_lt (fun a h => g2 _ (g1 a h)) 8 x) (byA_S (fun a h => g2 _ (g1 a h)) (fun a h => ⟨(p12_byte ⟨a, h⟩).1, (p12_byte ⟨a, h⟩).2.1⟩) 8 x), byS_comp (fun a h => g2 _ (g1 a h))]
  rfl
/-- the sums over the bytes -/
theorem pop_sum (x z a b c : Nat) (hz : z = byS popB 8 x) (ha : a = z + z / 256) (hb : b = a + a / 65536) (hc : c = b + b / 4294967296) : c < 18446744073709551616 ∧ a < 18446744073709551616 ∧ b < 18446744073709551616 ∧ (c % 2 == 1) = par 64 x := by
  have e := hz
  simp only [byS] at e
  have q0 := popB_ok (x % 256) (Nat.mod_lt _ (by omega))
  have q1 := popB_ok (x / 256 % 256) (Nat.mod_lt _ (by omega))
  have q2 := popB_ok (x / 256 / 256 % 256) (Nat.mod_lt _ (by omega))
  have q3 := popB_ok (x / 256 / 256 / 256 % 256) (Nat.mod_lt _ (by omega))
  have q4 := popB_ok (x / 256 / 256 / 256 / 256 % 256) (Nat.mod_lt _ (by omega))
  have q5 := popB_ok (x / 256 / 256 / 256 / 256 / 256 % 256) (Nat.mod_lt _ (by omega))
  have q6 := popB_ok (x / 256 / 256 / 256 / 256 / 256 / 256 % 256) (Nat.mod_lt _ (by omega))
  have q7 := popB_ok (x / 256 / 256 / 256 / 256 / 256 / 256 / 256 % 256) (Nat.mod_lt _ (by omega))
  have eP : par 64 x = (par 8 (x % 256) ^^ par 8 (x / 256 % 256) ^^ par 8 (x / 256 / 256 % 256) ^^ par 8 (x / 256 / 256 / 256 % 256) ^^ par 8 (x / 256 / 256 / 256 / 256 % 256) ^^ par 8 (x / 256 / 256 / 256 / 256 / 256 % 256) ^^ par 8 (x / 256 / 256 / 256 / 256 / 256 / 256 % 256) ^^ par 8 (x / 256 / 256 / 256 / 256 / 256 / 256 / 256 % 256)) := by
    simp only [par_mod]
    have d : ∀ k m, par (8 * (k + 1)) m = (par 8 m ^^ par (8 * k) (m / 256)) := fun k m => by
      rw [show 8 * (k + 1) = 8 + 8 * k by omega, dotN_add]
    rw [show 64 = 8 * (7 + 1) from rfl, d 7, d 6, d 5, d 4, d 3, d 2, d 1, d 0]
    simp only [show par (8 * 0) = fun _ => false from rfl, Bool.xor_false, Bool.xor_assoc]
  rw [eP, ← q0.2, ← q1.2, ← q2.2, ← q3.2, ← q4.2, ← q5.2, ← q6.2, ← q7.2]
  clear eP hz
  replace q0 := q0.1
  replace q1 := q1.1
  replace q2 := q2.1
  replace q3 := q3.1
  replace q4 := q4.1
  replace q5 := q5.1
  replace q6 := q6.1
  replace q7 := q7.1
  generalize popB (x % 256) = r0 at *
  generalize popB (x / 256 % 256) = r1 at *
  generalize popB (x / 256 / 256 % 256) = r2 at *
  generalize popB (x / 256 / 256 / 256 % 256) = r3 at *
  generalize popB (x / 256 / 256 / 256 / 256 % 256) = r4 at *
  generalize popB (x / 256 / 256 / 256 / 256 / 256 % 256) = r5 at *
  generalize popB (x / 256 / 256 / 256 / 256 / 256 / 256 % 256) = r6 at *
  generalize popB (x / 256 / 256 / 256 / 256 / 256 / 256 / 256 % 256) = r7 at *
  have ea : a = (r0 + r1) + 256 * ((r1 + r2) + 256 * ((r2 + r3) + 256 * ((r3 + r4) + 256 * ((r4 + r5) + 256 * ((r5 + r6) + 256 * ((r6 + r7) + 256 * r7)))))) := by omega
  have eb : b = (r0 + r1 + r2 + r3) + 256 * ((r1 + r2 + r3 + r4) + 256 * ((r2 + r3 + r4 + r5) + 256 * ((r3 + r4 + r5 + r6) + 256 * ((r4 + r5 + r6 + r7) + 256 * ((r5 + r6 + r7) + 256 * ((r6 + r7) + 256 * r7)))))) := by omega
  have ec : c = (r0 + r1 + r2 + r3 + r4 + r5 + r6 + r7) + 256 * ((r1 + r2 + r3 + r4 + r5 + r6 + r7) + 256 * ((r2 + r3 + r4 + r5 + r6 + r7) + 256 * ((r3 + r4 + r5 + r6 + r7) + 256 * ((r4 + r5 + r6 + r7) + 256 * ((r5 + r6 + r7) + 256 * ((r6 + r7) + 256 * r7)))))) := by omega
  refine ⟨by omega, by omega, by omega, ?_⟩
  have hc2 : c % 2 = (r0 + r1 + r2 + r3 + r4 + r5 + r6 + r7) % 2 := by omega
  rw [hc2]
  have m2 : ∀ s t : Nat, ((s + t) % 2 == 1) = ((s % 2 == 1) ^^ (t % 2 == 1)) := fun s t => by
    rcases Nat.mod_two_eq_zero_or_one s with h | h <;> rcases Nat.mod_two_eq_zero_or_one t with h' | h' <;> simp [Nat.add_mod, h, h']
  simp only [m2, Bool.xor_assoc]
end Go.Proofs.YtddihmpiaemadaaGreatDoor
