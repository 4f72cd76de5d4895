/- EquationsOf: the walks. -/
import Derived.Test.YthchdbjgjnpooaaDoorEqnW
namespace Go.Proofs.YthchdbjgjnpooaaDoor
set_option linter.unusedVariables false
set_option linter.unusedSimpArgs false
open Go.RowKit
theorem bi_wrap_i (b : Bool) : IntKind.i64.wrap (bi b) = bi b := by cases b <;> decide
theorem eqn_one (p : Eqn × Value) (h : ∃ A n c, p.2 = .slice A n c) : ∀ u ∈ epc p, u.oneCell' = true := by
  obtain ⟨A, n, c, h⟩ := h
  intro u hu
  simp [epc, h] at hu
  rcases hu with rfl | rfl <;> simp [Value.oneCell']
theorem epc_news {w : World} {g : Nat} {e : Eqn} {bv : Value} (h0 : w.cell? ⟨g, 0, none⟩ = some bv) (h1 : w.cell? ⟨g, 1, none⟩ = some (.int .i64 e.right)) : ∀ j u, (epc (e, bv))[j]? = some u → w.cell? ⟨g, j, none⟩ = some u := by
  intro j u hu
  match j, hu with
  | 0, hu => simp [epc] at hu; subst hu; exact h0
  | 1, hu => simp [epc] at hu; subst hu; exact h1
  | j + 2, hu => simp [epc] at hu
theorem rows_take {rows : List Rw} {pl : List (Eqn × Value)} {k : Nat} {e : Rw} {bv : Value} (h : pl.map Prod.fst = (rows.take k).map rowEqn) (he : rows[k]? = some e) : (pl ++ [(rowEqn e, bv)]).map Prod.fst = (rows.take (k + 1)).map rowEqn := by
  obtain ⟨hk, rfl⟩ := List.getElem?_eq_some_iff.1 he
  rw [List.map_append, h, List.take_succ_eq_append_getElem hk, List.map_append]; rfl
theorem rows_len {rows : List Rw} {pl : List (Eqn × Value)} {k : Nat} (h : pl.map Prod.fst = (rows.take k).map rowEqn) : pl.length ≤ rows.length := by
  have := congrArg List.length h
  simp at this; omega
set_option maxRecDepth 20000 in
set_option maxHeartbeats 4000000 in
theorem eqns_s (rows : List Rw) (v : Value) (w : World) (h : RowsAt .u64 w v rows) (hm : ∀ e ∈ rows, e.m < 18446744073709551616) (hn : rows.length ≤ 1048576) :
    Calls Tryd.prog 31 #[v] w fun e w' => REqS.ret w (rows.map rowEqn) e w' := by
  obtain ⟨i0, hi, hz0, hz1, hz2⟩ := info_parts icell_info
  obtain ⟨i1, ji, jz0, jz1, jz2⟩ := info_parts eqn_info
  have HM := Lib.hid hm
  obtain ⟨A, cA, rfl, hA⟩ := h
  clear hm
  have HO0 : Hid (EqT w.heap.size (w.alloc (.cells #[] 34)).heap.size (w.alloc (.cells #[] 34)) (.slice (some ⟨w.heap.size, 0, none⟩) 0 0) []) := Lib.hid ⟨OwnL.of_empty w (Nat.le_refl _), fun g h => by simp [Value.ownBlock] at h; subst h; simp, fun j p h => by simp at h, Split.nil⟩
  go_enter Tryd.func31, Tryd.ntmps31
  go_wp2
  go_loopw [4, 3] (fun i x wr => ∃ (k : Nat) (pl : List (Eqn × Value)), k ≤ rows.length ∧ i = .int .i64 k ∧ Below w.heap.size w wr ∧ Hid (EqT w.heap.size wr.heap.size wr x pl) ∧ Hid (pl.map Prod.fst = (rows.take k).map rowEqn)) (fun i _ _ => rows.length - (intOf i).toNat)
  case atStart => exact ⟨0, [], by omega, rfl, (by repeat (first | exact Below.refl _ _ | refine Below.alloc ?_ (by first | omega | (simp; done) | (simp; omega)) _ | apply Below.drew | apply below_drewN | refine Below.setCell ?_ (by first | omega | (simp; done) | (simp; omega)) _ | refine Below.trans ?_ (Below.mono (by assumption) (by first | omega | (simp; done) | (simp; omega))))), HO0, Lib.hid rfl⟩
  case round =>
    clear HO0
    obtain ⟨k, pl, hk, rfl, hb, HT, HP⟩ := hrel
    have zr := hb.size
    have hpl := rows_len HP.out
    obtain ⟨Ao, co, rfl, _⟩ := OwnL.shape HT.out.row
    by_cases hlt : k < rows.length
    · obtain ⟨e, he⟩ : ∃ e, rows[k]? = some e := ⟨rows[k], List.getElem?_eq_getElem hlt⟩
      obtain ⟨g, rfl, hg, hcc⟩ := hA.resolve_left (by intro h0; rw [h0] at hlt; simp at hlt)
      have HPN := Lib.hid (fun bv => rows_take (bv := bv) HP.out he)
      have hr0 : Hid (∀ W, Below wr.heap.size wr W → W.cell? ⟨g, k * 2, none⟩ = some (.int .u64 e.m)) := Lib.hid fun W hW => (hW.cell (p := ⟨g, _, none⟩) (Nat.lt_of_lt_of_le hg zr)).trans ((hb.cell (p := ⟨g, _, none⟩) hg).trans (hcc k e he).1)
      have k1 := (hb.cell (p := ⟨g, _, none⟩) hg).trans (hcc k e he).2
      have hem := HM.out e (List.mem_of_getElem? he)
      have HRE : Hid (rowEqn e = ⟨intsN (bitsK e.m 64), bi e.r⟩) := Lib.hid rfl
      have hwi := bi_wrap_i e.r
      generalize hR : rowEqn e = R at *
      have k1a : (wr.alloc (.cells #[] 2)).cell? ⟨g, k * 2 + 1, none⟩ = some (.int .u64 (bi e.r)) := (World.cell?_alloc_old _ _ _ (show g ≠ wr.heap.size from Nat.ne_of_lt (Nat.lt_of_lt_of_le hg zr))).trans k1
      generalize e.m = m at *
      generalize bi e.r = r at *
      generalize hwo : wr = wo at *; clear hwo
      have hE0 : Hid (Int64L wo.heap.size ((wo.alloc (.cells #[] 2)).alloc (.cells #[.slice (some ⟨wo.heap.size, 0, none⟩) 0 0, .int .i64 r] 34)) (.slice (some ⟨wo.heap.size, 0, none⟩) 0 0) (intsN (bitsK m 0))) := Lib.hid (OwnL.alloc (OwnL.of_empty wo (Nat.le_refl _)) _)
      have hB0 : Below wo.heap.size wo ((wo.alloc (.cells #[] 2)).alloc (.cells #[.slice (some ⟨wo.heap.size, 0, none⟩) 0 0, .int .i64 r] 34)) := Below.alloc (Below.alloc (Below.refl _ _) (Nat.le_refl _) _) (by simp) _
      clear he hcc k1 hR
      go_wp2
      go_loopw [6] (fun i wx => ∃ (k2 : Nat) (bv : Value), k2 ≤ 64 ∧ i = .int .i64 k2 ∧ Below wo.heap.size wo wx ∧ wo.heap.size + 2 ≤ wx.heap.size ∧ wx.cell? ⟨wo.heap.size + 1, 0, none⟩ = some bv ∧ wx.cell? ⟨wo.heap.size + 1, 1, none⟩ = some (.int .i64 r) ∧ (∀ j, wx.frozen? ⟨wo.heap.size + 1, j, none⟩ = false) ∧ Hid (Int64L wo.heap.size wx bv (intsN (bitsK m k2))) ∧ Hid (∀ b, bv.ownBlock = some b → b ≠ wo.heap.size + 1)) (fun i _ => 64 - (intOf i).toNat)
      case atStart => exact ⟨0, _, by omega, rfl, hB0, by simp, by simp [go_sem], by simp [go_sem], by intro j; simp [go_sem], hE0, Lib.hid fun b hb => by simp [Value.ownBlock] at hb; omega⟩
      case round =>
        clear hE0 hB0 k1a
        obtain ⟨k2, bv, hk2, rfl, hb2, hz2', p3, p4, f2, HO, HNE⟩ := hrel
        have p0 := hr0.out _ hb2
        have hbl := bitsK_len m k2
        obtain ⟨Ab, cb, hvb, _⟩ := OwnL.shape HO.out
        rw [intsN_len] at hvb
        subst hvb
        by_cases hlt2 : k2 < 64
        · have hbv := u64_bit m k2 hem
          have hbv2 : bits .and .u64 ((m : Int) / 2 ^ min k2 64) 1 = bi (m.testBit k2) := by rw [Nat.min_eq_left (by omega)]; exact hbv
          cases ht : m.testBit k2
          · rw [ht, bi_f] at hbv hbv2
            have HN := Lib.hid (bitsK_no ht)
            clear ht
            go_wp2
            go_roundw
            case rel => exact ⟨k2 + 1, _, by omega, by go_num, hb2, hz2', p3, p4, f2, by rw [HN.out]; exact HO, HNE⟩
            case measure => simp [intOf]; omega
          · rw [ht, bi_t] at hbv hbv2
            have HN := Lib.hid (bitsK_yes ht)
            have hbl1 : (intsN (bitsK m k2)).length + 1 ≤ 16777216 := by rw [intsN_len]; omega
            have hab : Below wo.heap.size wo (wr.alloc (.cells #[.int .i64 (k2 : Int)] 2)) := Below.alloc hb2 hb2.size _
            have hbase := hab.size
            have hne : wo.heap.size + 1 ≠ wr.heap.size := by omega
            have q3 := (World.cell?_alloc_old wr (.cells #[.int .i64 (k2 : Int)] 2) ⟨wo.heap.size + 1, 0, none⟩ hne).trans p3
            have q4 := (World.cell?_alloc_old wr (.cells #[.int .i64 (k2 : Int)] 2) ⟨wo.heap.size + 1, 1, none⟩ hne).trans p4
            have qf := fun j => (World.frozen?_alloc_old wr (.cells #[.int .i64 (k2 : Int)] 2) ⟨wo.heap.size + 1, j, none⟩ hne).trans (f2 j)
            have hza : (wr.alloc (.cells #[.int .i64 (k2 : Int)] 2)).heap.size = wr.heap.size + 1 := by simp
            clear ht
            go_wp2_with (at_builtin; refine wpList_app1at icell 1 icell_len _ rfl _ _ _ rfl wo.heap.size 2 i0 (.int .i64 0) 8 Tryd.underlying28 hi hz0 hz1 hz2 rfl (by decide) _ (intsN (bitsK m k2)) rfl (HO.out.alloc _) _ 1 (k2 : Int) rfl ?_ (by simp [icell, Value.oneCell']) hbl1 (by decide) hbase ?_; (· intro j u hu; cases j with | zero => (simp [icell] at hu; subst hu; simp) | succ j => simp [icell] at hu); intro v' w8 how8 hg8' hbl8'; have hg8 : (wr.alloc (.cells #[.int .i64 (k2 : Int)] 2)).grownBy w8 (Value.slice Ab (bitsK m k2).length cb).ownBlock := hg8'; have hbl8 : v'.ownBlock = (Value.slice Ab (bitsK m k2).length cb).ownBlock ∨ v'.ownBlock = some (wr.alloc (.cells #[.int .i64 (k2 : Int)] 2)).heap.size := hbl8'; have hne8 : some (wo.heap.size + 1) ≠ (Value.slice Ab (bitsK m k2).length cb).ownBlock := fun he => HNE.out _ he.symm rfl; have r3 := World.grownBy.cell hg8 (a := ⟨wo.heap.size + 1, 0, none⟩) q3 hne8; have r4 := World.grownBy.cell hg8 (a := ⟨wo.heap.size + 1, 1, none⟩) q4 hne8; have hblk : w8.heap[wo.heap.size + 1]? = (wr.alloc (.cells #[.int .i64 (k2 : Int)] 2)).heap[wo.heap.size + 1]? := hg8.block _ (World.block_lt_of_cell? _ _ q3) hne8; have rf := fun j => (World.frozen?_of_block (a := ⟨wo.heap.size + 1, j, none⟩) hblk).trans (qf j); have HNE8 : Hid (∀ b, v'.ownBlock = some b → b ≠ wo.heap.size + 1) := Lib.hid (fun b hb he => hbl8.elim (fun h => HNE.out b (by rw [← h]; exact hb) he) (fun h => by rw [h, hza] at hb; have := Option.some.inj hb; omega)); have hb8 : Below wo.heap.size wo w8 := own_grown_below (HO.out.alloc (.cells #[.int .i64 (k2 : Int)] 2)) hab hg8 (Nat.le_refl _) hbase; have hz8 : wo.heap.size + 2 ≤ w8.heap.size := (by have := hg8.size; omega); have hst : Int64L wo.heap.size (w8.setCell ⟨wo.heap.size + 1, 0, none⟩ v') v' (intsN (bitsK m k2) ++ [(k2 : Int)]) := (by refine OwnL.kept how8 (gset (World.grownBy.refl w8 (some (wo.heap.size + 1))) 0 v') ?_; (cases hob : v'.ownBlock with | none => exact .inl rfl | some b => exact .inr fun he => HNE8.out b hob (Option.some.inj he))); have HO8 := Lib.hid hst; obtain ⟨A8, c8, rfl, _⟩ := OwnL.shape how8; clear how8 hg8 hg8' hbl8 hbl8' hst hblk hne8)
            go_roundw
            case rel => exact ⟨k2 + 1, _, by omega, by go_num, Below.setCell hb8 (p := ⟨wo.heap.size + 1, 0, none⟩) (show wo.heap.size ≤ wo.heap.size + 1 by omega) _, by simpa using hz8, World.cell?_setCell_same _ _ _ r3, (World.cell?_setCell_other _ _ _ _ (by intro e; injection e with _ e _; omega)).trans r4, fun j => (World.frozen?_setCell _ _ _ _).trans (rf j), by rw [HN.out, intsN_app]; exact Lib.hid (by have := HO8.out; rw [List.length_append] at this; exact this), Lib.hid (by have := HNE8.out; rw [List.length_append] at this; exact this)⟩
            case measure => simp [intOf]; omega
        · obtain rfl : k2 = 64 := by omega
          have hbT : Below wo.heap.size wo (wr.alloc (.cells #[.slice Ab (bitsK m 64).length cb, .int .i64 r] 34)) := Below.alloc hb2 hb2.size _
          have HT2 := Lib.hid (HT.out.below hbT)
          have hbase := Nat.le_trans zr hbT.size
          have HBV := Lib.hid (OwnL.base (OwnL.alloc HO.out (.cells #[.slice Ab (bitsK m 64).length cb, .int .i64 r] 34)) zr)
          have HBN := Lib.hid (fun b (hb : (Value.slice Ab (bitsK m 64).length cb).ownBlock = some b) => (World.ownsRow.lt HO.out b hb).1)
          have hp1 : pl.length + 1 ≤ 16777216 := by omega
          have hone : ∀ u ∈ epc (R, .slice Ab (bitsK m 64).length cb), u.oneCell' = true := eqn_one _ ⟨_, _, _, rfl⟩
          have HRB : Hid (R.bits = intsN (bitsK m 64)) := Lib.hid (by rw [HRE.out])
          have HRR : Hid (R.right = r) := Lib.hid (by rw [HRE.out])
          go_wp2_with (at_builtin; refine wpList_app1at epc 2 epc_len _ rfl _ _ _ rfl w.heap.size 34 i1 (.agg #[.slice none 0 0, .int .i64 0]) 32 Tryd.underlying24 ji jz0 jz1 jz2 rfl (by decide) _ pl rfl HT2.out.row _ 1 (R, .slice Ab (bitsK m 64).length cb) rfl ?_ hone hp1 (by decide) hbase ?_; (· exact epc_news (by simp [go_sem]) (by rw [HRR.out]; simp [go_sem])); intro v' w8 how8 hg8 hbl8; have HT8 := Lib.hid (EqT.snoc HT2.out hbT.size (e := R) (bv := .slice Ab (bitsK m 64).length cb) (by rw [HRB.out]; exact HBV.out) HBN.out how8 hg8 hbl8); have hb8 : Below w.heap.size w w8 := own_grown_below HT2.out.row (hb.trans (hbT.mono zr)) hg8 (Nat.le_refl _) hbase; clear how8 hg8 hbl8)
          go_roundw
          case rel => exact ⟨k + 1, _, by omega, by go_num, hb8, HT8, Lib.hid (HPN.out _)⟩
          case measure => simp [intOf]; omega
    · obtain rfl : k = rows.length := by omega
      go_wp2
      go_ret
      exact ⟨_, rfl, ⟨pl, by rw [HP.out, List.take_length], HT.out⟩, hb⟩
end Go.Proofs.YthchdbjgjnpooaaDoor
