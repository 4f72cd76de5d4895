/- l23Solve of the reference: the walk. -/
import Derived.Test.YtfcdienphillnaaGreatLr24
import Derived.Maps.AppendAt
namespace Go.Proofs.YtfcdienphillnaaGreat
set_option linter.unusedVariables false
set_option linter.unusedSimpArgs false
open Go.RowKit
theorem wpList_app1atP {P : Program} {α : Type} (f : α → List Value) (z : Nat) (hf : ∀ a, (f a).length = z) (w : World) {ops : Array Oper} {rest : List Oper} {o : Oper} {a : Act} {Q : Exit → Act → World → Prop} (hgd : o.guard = none) (s x : Operand) (t : TypeId)
    (ho : o.op = .call { callee := .builtin .append, args := #[s, x], argTypes := #[t, t] })
    (B : Nat) (e : TypeId) (i : TypeInfo) (zv : Value) (bytes : Nat) (ht : P.underlying t = some (.slice e)) (hi : P.info? e = some i) (hz : i.zero = some zv)
    (hsize : i.size = z) (hby : i.bytes = bytes) (hzs : zv.cells.size = z) (hsz : 0 < z)
    (v : Value) (l : List α) (hs : a.eval s = v) (hown : OwnL f z e B w v l)
    (gx c : Nat) (el : α) (hx : a.eval x = .slice (some ⟨gx, 0, none⟩) 1 c) (hnews : ∀ j u, (f el)[j]? = some u → w.cell? ⟨gx, j, none⟩ = some u) (h1 : ∀ u ∈ f el, u.oneCell' = true)
    (hn : l.length + 1 ≤ 16777216) (hbytes : bytes ≤ 4096) (hbase : B ≤ w.heap.size)
    (h : ∀ v' w', OwnL f z e B w' v' (l ++ [el]) → w.grownBy w' v.ownBlock → (v'.ownBlock = v.ownBlock ∨ v'.ownBlock = some w.heap.size) → wpList P ops Q rest (a.put o.dst v') w') : wpList P ops Q (o :: rest) a w := by
  refine wpList_append_own_at w hgd s x t ho B e i zv z bytes ht hi hz hsize hby hzs hsz v l.length (flat f l) hs hown ⟨gx, 0, none⟩ 1 c (f el) hx (by rw [hf]; omega) ?_ h1 (by unfold maxLen; omega) ?_ hbase ?_
  · intro j u hu
    have e2 : (⟨gx, 0, none⟩ : Addr).add j = ⟨gx, j, none⟩ := by unfold Addr.add; split <;> simp_all
    rw [e2]; exact hnews j u hu
  · have : (l.length + 1) * bytes ≤ 16777216 * 4096 := Nat.mul_le_mul hn hbytes
    omega
  · intro v' w' h2 h3 _ h5
    refine h v' w' ?_ h3 h5
    unfold OwnL
    rw [flat_app, List.length_append]
    simpa [flat] using h2
theorem Buf.at_ {w : World} {g k x : Nat} {l : List Nat} (h : Buf w g l) (hk : l[k]? = some x) : w.cell? ⟨g, k, none⟩ = some (.int .u8 (x : Int)) := (h k x hk).1
theorem app_keep {w w8 w10 : World} {o : Obj} {xv yv : Value} {lx ly : List Nat} (hbd : Below w.heap.size w w8) (OX : BytesL w.heap.size w8 xv lx) (OY : BytesL w.heap.size w8 yv ly) (hxy : ∀ b, xv.ownBlock = some b → yv.ownBlock ≠ some b) (hg : (w8.alloc o).grownBy w10 xv.ownBlock) : Below w.heap.size w w10 ∧ BytesL w.heap.size w10 yv ly ∧ w8.heap.size + 1 ≤ w10.heap.size := by
  have zd := hbd.size
  refine ⟨own_grown_below (OX.alloc o) (Below.alloc hbd zd _) hg (Nat.le_refl _) (by simp; omega), OwnL.kept (OY.alloc o) hg ?_, by have := hg.size; simpa using this⟩
  cases hob : yv.ownBlock with
  | none => exact .inl rfl
  | some b' => exact .inr (fun he => hxy b' he.symm hob)
set_option maxRecDepth 20000 in
set_option maxHeartbeats 8000000 in
theorem solve_s (i j : Int) (ga ca gb cb n : Nat) (A B : List Nat) (w : World) (hA : Buf w ga A) (hB : Buf w gb B) (hga : ga < w.heap.size) (hgb : gb < w.heap.size) (hla : A.length = n) (hlb : B.length = n) (hta : ∀ x ∈ A, x < 256) (htb : ∀ x ∈ B, x < 256) (hn : n ≤ 64) (hn0 : n ≠ 0) (hi : -9223372036854775808 ≤ i ∧ i ≤ 9223372036854775807) (hj : -9223372036854775808 ≤ j ∧ j ≤ 9223372036854775807) :
    Calls Tryz.prog 175 #[.int .i64 i, .int .i64 j, .slice (some ⟨ga, 0, none⟩) n ca, .slice (some ⟨gb, 0, none⟩) n cb] w fun e w' => e = .returned (.tuple #[.string (strN (scN (invF (gpow (m255 i) ^^^ gpow (m255 j))) (xorN (scN (gpow (m255 j)) A) B))), .string (strN (xorN (scN (invF (gpow (m255 i) ^^^ gpow (m255 j))) (xorN (scN (gpow (m255 j)) A) B)) A))]) ∧ Below w.heap.size w w' := by
  obtain ⟨i1, ji, jz0, jz1, jz2⟩ := info_parts ucell_info
  have hgi := gpow_lt (m255 i)
  have hgj := gpow_lt (m255 j)
  have HGI := Lib.hid (fun w' => gpow_s i w' hi)
  have HGJ := Lib.hid (fun w' => gpow_s j w' hj)
  generalize gpow (m255 i) = gi at *
  generalize gpow (m255 j) = gj at *
  have hxr := i64_xor_nat gi gj (by omega) (by omega)
  have hgx := xor_lt256 hgi hgj
  have HIV := Lib.hid (fun w' => inv_s (gi ^^^ gj) w' hgx)
  have hiv := inv_lt (gi ^^^ gj)
  generalize gi ^^^ gj = gx at *
  generalize invF gx = iv at *
  have hc1 : (scN gj A).length = n := by rw [scN_len]; exact hla
  have hc2 : (xorN (scN gj A) B).length = n := by rw [xorN_len (by omega)]; exact hc1
  have hFl : (scN iv (xorN (scN gj A) B)).length = n := by rw [scN_len]; exact hc2
  have hEl : (xorN (scN iv (xorN (scN gj A) B)) A).length = n := by rw [xorN_len (by omega)]; exact hFl
  have HEL := Lib.hid (fun k a b (ha : A[k]? = some a) (hb : B[k]? = some b) => (show (scN iv (xorN (scN gj A) B))[k]? = some (gmul (gmul a gj 0 ^^^ b) iv 0) ∧ (xorN (scN iv (xorN (scN gj A) B)) A)[k]? = some (gmul (gmul a gj 0 ^^^ b) iv 0 ^^^ a) from by
    have h1 := scN_get (f := iv) (xorN_get (scN_get (f := gj) ha) hb)
    exact ⟨h1, xorN_get h1 ha⟩))
  generalize xorN (scN iv (xorN (scN gj A) B)) A = E at *
  generalize scN iv (xorN (scN gj A) B) = F at *
  have HA := Lib.hid hA
  have HB := Lib.hid hB
  have HTA := Lib.hid hta
  have HTB := Lib.hid htb
  clear hA hB hta htb hc1 hc2
  go_enter Tryz.func175, Tryz.ntmps175
  go_wp2_with (fail)
  refine (HGI.out _).mono ?_; rintro e wg ⟨rfl, rfl⟩
  go_wp2_with (fail)
  refine (HGJ.out _).mono ?_; rintro e wg ⟨rfl, rfl⟩
  go_wp2_with (fail)
  refine (HIV.out _).mono ?_; rintro e wg ⟨rfl, rfl⟩
  go_wp2
  go_loopw [13, 10, 11] (fun ii xx yy wr => ∃ k : Nat, k ≤ n ∧ ii = .int .i64 k ∧ Below w.heap.size w wr ∧ BytesL w.heap.size wr xx (F.take k) ∧ BytesL w.heap.size wr yy (E.take k) ∧ (∀ b, xx.ownBlock = some b → yy.ownBlock ≠ some b)) (fun ii _ _ _ => n - (intOf ii).toNat)
  case atStart => exact ⟨0, by omega, rfl, (by repeat (first | exact Below.refl _ _ | refine Below.alloc ?_ (by first | omega | (simp; done) | (simp; omega)) _ | apply Below.drew | apply below_drewN | refine Below.setCell ?_ (by first | omega | (simp; done) | (simp; omega)) _ | refine Below.trans ?_ (Below.mono (by assumption) (by first | omega | (simp; done) | (simp; omega))))), by simpa using (OwnL.of_empty (f := ucell) (z := 1) (α := Nat) w (Nat.le_refl _)).alloc _, by simpa using OwnL.base (OwnL.of_empty (f := ucell) (z := 1) (α := Nat) (e := 5) (w.alloc (.cells #[] 5)) (Nat.le_refl _)) (by simp), fun b hb => by simp [Value.ownBlock] at hb ⊢; omega⟩
  case round =>
    obtain ⟨k, hk, rfl, hb, ox, oy, hxy⟩ := hrel
    have zr := hb.size
    by_cases hlt : k < n
    · obtain ⟨a, ha⟩ : ∃ a, A[k]? = some a := ⟨_, List.getElem?_eq_getElem (by omega)⟩
      obtain ⟨b, hbk⟩ : ∃ b, B[k]? = some b := ⟨_, List.getElem?_eq_getElem (by omega)⟩
      have ha2 := HTA.out a (List.mem_of_getElem? ha)
      have hb2 := HTB.out b (List.mem_of_getElem? hbk)
      obtain ⟨hFk, hEk⟩ := HEL.out k a b ha hbk
      have hwa : IntKind.i64.wrap (a : Int) = a := by simp [IntKind.wrap, IntKind.signed, IntKind.bits] <;> omega
      have hwb : IntKind.i64.wrap (b : Int) = b := by simp [IntKind.wrap, IntKind.signed, IntKind.bits] <;> omega
      have hm1 := gmul_lt (a := a) (b := gj) (acc := 0) ha2 (by omega)
      have HM1 := Lib.hid (fun w' => gmul_s a gj w' ha2 hgj)
      generalize gmul a gj 0 = c1 at *
      have hx1 := i64_xor_nat c1 b (by omega) (by omega)
      have hm2 := xor_lt256 hm1 hb2
      have HM2 := Lib.hid (fun w' => gmul_s (c1 ^^^ b) iv w' hm2 hiv)
      have hm3 := gmul_lt (a := c1 ^^^ b) (b := iv) (acc := 0) hm2 (by omega)
      generalize hc1b : c1 ^^^ b = d1 at *
      generalize gmul d1 iv 0 = f1 at *
      have hwr := wrap_u8_nat f1 hm3
      have hx2 := xor_u8P f1 a hm3 ha2
      have hm4 := xor_lt256 hm3 ha2
      have HFT : Hid (F.take (k + 1) = F.take k ++ [f1]) := Lib.hid (by
        obtain ⟨h1, h2⟩ := List.getElem?_eq_some_iff.1 hFk
        rw [List.take_succ_eq_append_getElem h1, h2])
      have HET : Hid (E.take (k + 1) = E.take k ++ [f1 ^^^ a]) := Lib.hid (by
        obtain ⟨h1, h2⟩ := List.getElem?_eq_some_iff.1 hEk
        rw [List.take_succ_eq_append_getElem h1, h2])
      generalize f1 ^^^ a = e1' at *
      have pa : wr.drew.cell? ⟨ga, k, none⟩ = some (.int .u8 (a : Int)) := (hb.cell (p := ⟨ga, k, none⟩) hga).trans (HA.out.at_ ha)
      have pb : wr.drew.cell? ⟨gb, k, none⟩ = some (.int .u8 (b : Int)) := (hb.cell (p := ⟨gb, k, none⟩) hgb).trans (HB.out.at_ hbk)
      have OX := Lib.hid (OwnL.below ox ((Qt.refl wr).drew.below _))
      have OY := Lib.hid (OwnL.below oy ((Qt.refl wr).drew.below _))
      have hbd : Below w.heap.size w wr.drew := hb.drew
      have htl : (F.take k).length = k := by simp; omega
      have htl2 : (E.take k).length = k := by simp; omega
      clear ha hbk hFk hEk ox oy hc1b
      go_wp2_with (fail)
      refine region_s0P (by kernel_rfl) (by kernel_rfl) (fun w8 hw8 => ?_)
      rw [← hw8] at pa pb OX OY hbd
      clear hw8
      repeat still_step
      still_call (still_cP (HGJ.out _))
      repeat still_step
      still_call (still_cP (HM1.out _))
      repeat still_step
      refine wpStill_nil ?_
      have zd := hbd.size
      go_wp2_with (fail)
      refine (HM2.out _).mono ?_; rintro e wg ⟨rfl, rfl⟩
      obtain ⟨Ax, cx, hvx, _⟩ := OwnL.shape OX.out
      obtain ⟨Ay, cy, hvy, _⟩ := OwnL.shape OY.out
      rw [htl] at hvx
      rw [htl2] at hvy
      subst hvx
      subst hvy
      have HXY := Lib.hid hxy
      have hga8 : ga < w8.heap.size := by omega
      clear hxy
      go_wp2_with (first | (at_builtin; refine wpList_app1atP ucell 1 ucell_len _ rfl _ _ _ rfl w.heap.size 5 i1 (.int .u8 0) 1 Tryz.underlying65 ji jz0 jz1 jz2 rfl (by decide) _ (F.take k) rfl (OX.out.alloc _) _ 1 f1 rfl ?_ (by simp [ucell, Value.oneCell']) (by omega) (by omega) (by simp; omega) ?_; (· intro j u hu; cases j with | zero => (simp [ucell] at hu; subst hu; simp) | succ j => simp [ucell] at hu); intro v' w10 how10 hg10 hbl10; have hg10' : (w8.alloc (.cells #[.int .u8 (f1 : Int)] 5)).grownBy w10 (Value.slice Ax k cx).ownBlock := hg10; have HBL10 : Hid (v'.ownBlock = (Value.slice Ax k cx).ownBlock ∨ v'.ownBlock = some (w8.alloc (.cells #[.int .u8 (f1 : Int)] 5)).heap.size) := Lib.hid hbl10; have hpa := World.grownBy.cell hg10' (a := ⟨ga, k, none⟩) ((World.cell?_alloc_old _ _ _ (Nat.ne_of_lt hga8)).trans pa) (fun he => absurd (World.ownsRow.lt OX.out _ he.symm).1 (by show ¬ w.heap.size ≤ ga; omega)); have HK := Lib.hid (app_keep hbd OX.out OY.out HXY.out hg10'); have z810 := HK.out.2.2; have zw10 := HK.out.1.size; have HOW10 := Lib.hid how10; clear hg10 hbl10 hg10' how10) | (at_builtin; refine wpList_app1atP ucell 1 ucell_len _ rfl _ _ _ rfl w.heap.size 5 i1 (.int .u8 0) 1 Tryz.underlying65 ji jz0 jz1 jz2 rfl (by decide) _ (E.take k) rfl (HK.out.2.1.alloc _) _ 1 e1' rfl ?_ (by simp [ucell, Value.oneCell']) (by omega) (by omega) (by simp; omega) ?_; (· intro j u hu; cases j with | zero => (simp [ucell] at hu; subst hu; simp) | succ j => simp [ucell] at hu); intro v2 w12 how12 hg12 hbl12; have hg12' : (w10.alloc (.cells #[.int .u8 (e1' : Int)] 5)).grownBy w12 (Value.slice Ay k cy).ownBlock := hg12; have hbl12' : v2.ownBlock = (Value.slice Ay k cy).ownBlock ∨ v2.ownBlock = some (w10.alloc (.cells #[.int .u8 (e1' : Int)] 5)).heap.size := hbl12; clear hg12 hbl12))
      go_roundw
      case rel =>
        have hylt := fun q hq => (World.ownsRow.lt OY.out q hq).2
        have hxlt := fun q hq => (World.ownsRow.lt OX.out q hq).2
        have hx10 := fun q hq => (World.ownsRow.lt HOW10.out q hq).2
        have hne : ∀ b, v'.ownBlock = some b → (Value.slice Ay k cy).ownBlock ≠ some b := fun b hb he => by
          rcases HBL10.out with h | h
          · exact HXY.out b (h.symm.trans hb) he
          · rw [h] at hb
            have h1 := hylt b he
            have h2 := Option.some.inj hb
            simp at h2
            omega
        refine ⟨k + 1, by omega, by go_num, own_grown_below (HK.out.2.1.alloc _) (Below.alloc HK.out.1 (by omega) _) hg12' (Nat.le_refl _) (by simp; omega), ?_, by rw [HET.out]; exact how12, fun b hb => ?_⟩
        · rw [HFT.out]
          refine OwnL.kept (HOW10.out.alloc _) hg12' ?_
          cases hob : v'.ownBlock with
          | none => exact .inl rfl
          | some b' => exact .inr (fun he => hne b' hob he.symm)
        · rcases hbl12' with h | h
          · rw [h]; exact hne b hb
          · rw [h]
            intro he
            have h1 := hx10 b hb
            have h2 := Option.some.inj he
            simp at h2
            omega
      case measure => simp [intOf]; omega
    · obtain rfl : k = n := by omega
      have OX := Lib.hid (OwnL.below ox ((Qt.refl wr).drew.below _))
      have OY := Lib.hid (OwnL.below oy ((Qt.refl wr).drew.below _))
      rw [List.take_of_length_le (by omega)] at OX
      rw [List.take_of_length_le (by omega)] at OY
      have hbd : Below w.heap.size w wr.drew := hb.drew
      obtain ⟨Ax, cx, hvx, hAx⟩ := OwnL.shape OX.out
      obtain ⟨Ay, cy, hvy, hAy⟩ := OwnL.shape OY.out
      obtain ⟨gx, rfl, _, _⟩ := hAx.resolve_left (by intro h; rw [h] at hFl; exact hn0 hFl.symm)
      obtain ⟨gy, rfl, _, _⟩ := hAy.resolve_left (by intro h; rw [h] at hEl; exact hn0 hEl.symm)
      rw [hFl] at hvx
      rw [hEl] at hvy
      subst hvx
      subst hvy
      have hs1 := (BytesL.buf OX.out hFl).str (n := k) (c := cx) hFl
      have hs2 := (BytesL.buf OY.out hEl).str (n := k) (c := cy) hEl
      clear ox oy hxy hAx hAy
      go_wp2_with (fail)
      refine region_s0P (by kernel_rfl) (by kernel_rfl) (fun w8 hw8 => ?_)
      rw [← hw8] at hs1 hs2 hbd
      clear OX OY hw8
      repeat still_step
      refine wpStill_nil ?_
      go_wp2
      exact bodyPost_ret (v := .tuple #[.string (strN F), .string (strN E)]) (by simp [results, Tryz.results175, go_sem] <;> rfl) rfl ⟨rfl, hbd⟩
end Go.Proofs.YtfcdienphillnaaGreat
