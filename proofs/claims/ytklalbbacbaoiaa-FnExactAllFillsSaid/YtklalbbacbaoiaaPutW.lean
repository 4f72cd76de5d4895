/- l25Put: the walk. -/
import Derived.Test.YtklalbbacbaoiaaAllS
import Derived.Test.YtklalbbacbaoiaaHString
namespace Go.Proofs.Ytklalbbacbaoiaa
set_option linter.unusedVariables false
open Go.RowKit
theorem putK_stop {L : List (List Nat)} {t x : List Nat} {j : Nat} (hx : L[j]? = some x) (h : ltL t x = false) : putK L t (j + 1) = j + 1 := by
  rw [putK, List.getD_eq_getElem?_getD, hx, Option.getD_some, h]; rfl
theorem putK_on {L : List (List Nat)} {t x : List Nat} {j : Nat} (hx : L[j]? = some x) (h : ltL t x = true) : putK L t (j + 1) = putK L t j := by
  rw [putK, List.getD_eq_getElem?_getD, hx, Option.getD_some, h]; rfl
theorem putS_map (L : List (List Nat)) (t : List Nat) {k : Nat} (h : putK L t L.length = k) : (putS L t).map strN = ((L.map strN).take k ++ [strN t]) ++ (L.map strN).drop k := by
  unfold putS; rw [h]; simp [List.map_take, List.map_drop]
theorem str_cells {e : TypeId} {B g n c : Nat} {w : World} {l : List ByteArray} (h : OwnL scell 1 e B w (.slice (some ⟨g, 0, none⟩) n c) l) (o a : Nat) : ∀ k b j u, ((l.drop o).take a)[k]? = some b → (scell b)[j]? = some u → w.cell? ⟨g, o + (k * 1 + j), none⟩ = some u := by
  intro k9 b9 j9 u9 hb hu
  rw [List.getElem?_take] at hb
  split at hb
  · rw [List.getElem?_drop] at hb
    have := OwnL.at1 scell_len h hb hu
    rw [Nat.mul_one] at this
    rw [Nat.mul_one, ← Nat.add_assoc]
    exact this
  · cases hb
theorem scell_one (e : ByteArray) : ∀ u ∈ scell e, u.oneCell' = true := by simp [scell, Value.oneCell']
theorem bl_map : ∀ {a b : List Nat}, (∀ x ∈ a, x < 256) → (∀ x ∈ b, x < 256) → Op.bytesLess (a.map UInt8.ofNat) (b.map UInt8.ofNat) = ltL a b := by
  intro a
  induction a with
  | nil => intro b _ _; cases b with
    | nil => rfl
    | cons y b => rfl
  | cons x a ih =>
    intro b ha hb
    cases b with
    | nil => rfl
    | cons y b =>
      have hx := ha x (by simp)
      have hy := hb y (by simp)
      rw [List.map_cons, List.map_cons, Op.bytesLess, ltL, ih (fun z hz => ha z (by simp [hz])) (fun z hz => hb z (by simp [hz]))]
      have e1 : decide (UInt8.ofNat x < UInt8.ofNat y) = decide (x < y) := by
        apply decide_eq_decide.2
        rw [UInt8.lt_iff_toNat_lt, UInt8.toNat_ofNat', UInt8.toNat_ofNat', Nat.mod_eq_of_lt hx, Nat.mod_eq_of_lt hy]
      have e2 : (UInt8.ofNat x == UInt8.ofNat y) = (x == y) := by
        rw [Bool.eq_iff_iff, beq_iff_eq, beq_iff_eq, ← UInt8.toNat_inj, UInt8.toNat_ofNat', UInt8.toNat_ofNat', Nat.mod_eq_of_lt hx, Nat.mod_eq_of_lt hy]
      rw [e1, e2]
theorem strN_toList (a : List Nat) : (strN a).toList = a.map UInt8.ofNat := by
  rw [ByteArray.toList_eq, strN, strOfNums_data, List.map_map]; rfl
theorem less_str {a b : List Nat} (ha : ∀ x ∈ a, x < 256) (hb : ∀ x ∈ b, x < 256) : Op.bytesLess (strN a).toList (strN b).toList = ltL a b := by
  rw [strN_toList, strN_toList]; exact bl_map ha hb
theorem eq_str {a b : List Nat} (ha : ∀ x ∈ a, x < 256) (hb : ∀ x ∈ b, x < 256) : ((strN a).toList == (strN b).toList) = (a == b) := by
  rw [Bool.eq_iff_iff, beq_iff_eq, beq_iff_eq]
  constructor
  · intro h
    have h2 : strN a = strN b := by
      rw [ByteArray.toList_eq, ByteArray.toList_eq] at h
      exact ByteArray.ext (Array.toList_inj.1 h)
    have := congrArg bts h2
    rwa [bts_strN ha, bts_strN hb] at this
  · rintro rfl; rfl
set_option maxRecDepth 20000 in
set_option maxHeartbeats 4000000 in
theorem put_s (B g c : Nat) (L : List (List Nat)) (t : List Nat) (w : World) (h : StringL B w (.slice (some ⟨g, 0, none⟩) L.length c) (L.map strN)) (hL : ∀ x ∈ L, ∀ y ∈ x, y < 256) (ht : ∀ y ∈ t, y < 256) (hn : L.length ≤ 1048576) :
    Calls Try.prog 79 #[.slice (some ⟨g, 0, none⟩) L.length c, .string (strN t)] w fun e w' => RetL scell 1 9 w ((putS L t).map strN) e w' := by
  obtain ⟨i0, hi, hz0, hz1, hz2⟩ := info_parts scell_info
  have HC := Lib.hid (fun (k : Nat) (x : List Nat) (hk : L[k]? = some x) => StringL.at_ (e := strN x) h (by simp) (by rw [List.getElem?_map, hk]; rfl))
  obtain ⟨hcl1, hcl2⟩ := OwnL.cap h
  have HLT := Lib.hid hL
  have HH := Lib.hid h
  clear hL h
  unfold maxLen at hcl2
  go_enter Try.func79, Try.ntmps79
  go_wp2
  go_loop [5] (fun i => ∃ k : Nat, k ≤ L.length ∧ i = .int .i64 k ∧ Hid (putK L t L.length = putK L t k)) (fun i => (intOf i).toNat)
  case atStart => exact ⟨L.length, Nat.le_refl _, rfl, Lib.hid rfl⟩
  case round =>
    obtain ⟨k, hk, rfl, HK⟩ := hrel
    cases k with
    | zero =>
      have HF := Lib.hid (putS_map L t (k := 0) (HK.out.trans rfl))
      clear HK
      have hbW : Below w.heap.size w (w.alloc (.cells #[] 9)) := Below.alloc (Below.refl _ _) (Nat.le_refl _) _
      have HE1 : Hid (StringL w.heap.size (w.alloc (.cells #[] 9)) (.slice (some ⟨w.heap.size, 0, none⟩) 0 0) []) := Lib.hid (OwnL.of_empty w (Nat.le_refl _))
      have HT : Hid (∀ W : World, Below w.heap.size w W → ∀ o a k b j u, (((L.map strN).drop o).take a)[k]? = some b → (scell b)[j]? = some u → W.cell? ⟨g, o + (k * 1 + j), none⟩ = some u) := Lib.hid fun W hW o a => str_cells (OwnL.below HH.out hW) o a
      have htl : ((L.map strN).take 0).length = 0 := by rw [List.length_take, List.length_map]; omega
      have hdl : ((L.map strN).drop 0).length = L.length - 0 := by rw [List.length_drop, List.length_map]
      have hl2 : ((L.map strN).take 0).length + 1 ≤ 16777216 := by rw [htl]; omega
      have hl3 : ((L.map strN).take 0 ++ [strN t]).length + (L.length - 0) ≤ 16777216 := by rw [List.length_append, htl, List.length_singleton]; omega
      rcases Decidable.em (c = 0) with hce | hce
      all_goals
        go_wp2_with (first
              | (at_builtin; refine wpList_appSub scell 1 scell_len _ rfl _ _ _ rfl w.heap.size 9 i0 (.string .empty) 16 Try.underlying48 hi hz0 hz1 hz2 rfl (by decide) _ [] rfl HE1.out g _ _ _ ((L.map strN).take 0) htl rfl ?_ scell_one (by first | omega | (simp; done) | (simp; omega)) (by decide) (by first | omega | (simp; done) | (simp; omega)) ?_; (· intro k9 b9 j9 u9 hb hu; exact absurd hb (by simp)); intro lv2 w2 how2 hg2' hbl2; have hb2 : Below w.heap.size w w2 := own_grown_below HE1.out hbW hg2' (Nat.le_refl _) hbW.size; have z2 := hb2.size; have HO2 : Hid (StringL w.heap.size w2 lv2 ((L.map strN).take 0)) := Lib.hid how2; have hbase2 : w.heap.size ≤ (w2.alloc (.cells #[.string (strN t)] 9)).heap.size := Nat.le_trans z2 (by simp); clear how2 hg2' hbl2)
              | (at_builtin; refine wpList_app1 scell 1 scell_len _ rfl _ _ _ rfl w.heap.size 9 i0 (.string .empty) 16 Try.underlying48 hi hz0 hz1 hz2 rfl (by decide) _ ((L.map strN).take 0) rfl (HO2.out.alloc _) _ 1 (strN t) rfl ?_ (scell_one _) hl2 (by decide) hbase2 ?_; (· intro j u hu; cases j with | zero => (simp [scell] at hu; subst hu; simp) | succ j => simp [scell] at hu); intro lv3 w3 how3 hg3'; have hb3 : Below w.heap.size w w3 := own_grown_below (HO2.out.alloc (.cells #[.string (strN t)] 9)) (Below.alloc hb2 z2 _) hg3' (Nat.le_refl _) hbase2; have z3 := hb3.size; have HO3 := Lib.hid how3; clear how3 hg3')
              | (at_builtin; refine wpList_appSub scell 1 scell_len _ rfl _ _ _ rfl w.heap.size 9 i0 (.string .empty) 16 Try.underlying48 hi hz0 hz1 hz2 rfl (by decide) _ ((L.map strN).take 0 ++ [strN t]) rfl HO3.out g _ _ _ ((L.map strN).drop 0) hdl rfl ?_ scell_one hl3 (by decide) z3 ?_; (· intro k9 b9 j9 u9 hb hu; first | (have := HT.out _ hb3 0 (L.length - 0) k9 b9 j9 u9 (by rw [List.take_of_length_le (by simp)]; exact hb) hu; simpa using this) | (exfalso; have := (List.getElem?_eq_some_iff.1 hb).1; simp at this; omega)); intro lv4 w4 how4 hg4' hbl4; have hb4 : Below w.heap.size w w4 := own_grown_below HO3.out hb3 hg4' (Nat.le_refl _) z3; have HO4 := Lib.hid how4; clear how4 hg4' hbl4))
        go_ret
        exact ⟨_, rfl, by rw [HF.out]; exact HO4.out, hb4⟩
    | succ j =>
      obtain ⟨x, hx⟩ : ∃ x, L[j]? = some x := ⟨L[j]'(by omega), List.getElem?_eq_getElem (by omega)⟩
      have q0 := HC.out j x hx
      have hxl := HLT.out x (List.mem_of_getElem? hx)
      have hlt := less_str hxl ht
      have heq := eq_str hxl ht
      cases hc : ltL t x
      · have HF := Lib.hid (putS_map L t (k := j + 1) (HK.out.trans (putK_stop hx hc)))
        have hcond : Op.bytesLess (strN x).toList (strN t).toList = true ∨ ((strN x).toList == (strN t).toList) = true := by
          rw [hlt, heq]
          cases h2 : ltL x t with
          | true => exact .inl rfl
          | false => exact .inr (by rw [ltL_tri hc h2]; simp)
        clear hlt heq HK hx hc hxl
        have hbW : Below w.heap.size w (w.alloc (.cells #[] 9)) := Below.alloc (Below.refl _ _) (Nat.le_refl _) _
        have HE1 : Hid (StringL w.heap.size (w.alloc (.cells #[] 9)) (.slice (some ⟨w.heap.size, 0, none⟩) 0 0) []) := Lib.hid (OwnL.of_empty w (Nat.le_refl _))
        have HT : Hid (∀ W : World, Below w.heap.size w W → ∀ o a k b j u, (((L.map strN).drop o).take a)[k]? = some b → (scell b)[j]? = some u → W.cell? ⟨g, o + (k * 1 + j), none⟩ = some u) := Lib.hid fun W hW o a => str_cells (OwnL.below HH.out hW) o a
        have htl : ((L.map strN).take (j + 1)).length = (j + 1) := by rw [List.length_take, List.length_map]; omega
        have hdl : ((L.map strN).drop (j + 1)).length = L.length - (j + 1) := by rw [List.length_drop, List.length_map]
        have hl2 : ((L.map strN).take (j + 1)).length + 1 ≤ 16777216 := by rw [htl]; omega
        have hl3 : ((L.map strN).take (j + 1) ++ [strN t]).length + (L.length - (j + 1)) ≤ 16777216 := by rw [List.length_append, htl, List.length_singleton]; omega
        rcases hcond with hcond | hcond
        all_goals rcases Decidable.em (c = j + 1) with hce | hce
        all_goals
          go_wp2_with (first
              | (at_builtin; refine wpList_appSub scell 1 scell_len _ rfl _ _ _ rfl w.heap.size 9 i0 (.string .empty) 16 Try.underlying48 hi hz0 hz1 hz2 rfl (by decide) _ [] rfl HE1.out g _ _ _ ((L.map strN).take (j + 1)) htl rfl ?_ scell_one (by first | omega | (simp; done) | (simp; omega)) (by decide) (by first | omega | (simp; done) | (simp; omega)) ?_; (· intro k9 b9 j9 u9 hb hu; have := HT.out _ hbW 0 (j + 1) k9 b9 j9 u9 (by simpa using hb) hu; simpa using this); intro lv2 w2 how2 hg2' hbl2; have hb2 : Below w.heap.size w w2 := own_grown_below HE1.out hbW hg2' (Nat.le_refl _) hbW.size; have z2 := hb2.size; have HO2 : Hid (StringL w.heap.size w2 lv2 ((L.map strN).take (j + 1))) := Lib.hid how2; have hbase2 : w.heap.size ≤ (w2.alloc (.cells #[.string (strN t)] 9)).heap.size := Nat.le_trans z2 (by simp); clear how2 hg2' hbl2)
              | (at_builtin; refine wpList_app1 scell 1 scell_len _ rfl _ _ _ rfl w.heap.size 9 i0 (.string .empty) 16 Try.underlying48 hi hz0 hz1 hz2 rfl (by decide) _ ((L.map strN).take (j + 1)) rfl (HO2.out.alloc _) _ 1 (strN t) rfl ?_ (scell_one _) hl2 (by decide) hbase2 ?_; (· intro j u hu; cases j with | zero => (simp [scell] at hu; subst hu; simp) | succ j => simp [scell] at hu); intro lv3 w3 how3 hg3'; have hb3 : Below w.heap.size w w3 := own_grown_below (HO2.out.alloc (.cells #[.string (strN t)] 9)) (Below.alloc hb2 z2 _) hg3' (Nat.le_refl _) hbase2; have z3 := hb3.size; have HO3 := Lib.hid how3; clear how3 hg3')
              | (at_builtin; refine wpList_appSub scell 1 scell_len _ rfl _ _ _ rfl w.heap.size 9 i0 (.string .empty) 16 Try.underlying48 hi hz0 hz1 hz2 rfl (by decide) _ ((L.map strN).take (j + 1) ++ [strN t]) rfl HO3.out g _ _ _ ((L.map strN).drop (j + 1)) hdl rfl ?_ scell_one hl3 (by decide) z3 ?_; (· intro k9 b9 j9 u9 hb hu; first | (have := HT.out _ hb3 (j + 1) (L.length - (j + 1)) k9 b9 j9 u9 (by rw [List.take_of_length_le (by simp)]; exact hb) hu; simpa using this) | (exfalso; have := (List.getElem?_eq_some_iff.1 hb).1; simp at this; omega)); intro lv4 w4 how4 hg4' hbl4; have hb4 : Below w.heap.size w w4 := own_grown_below HO3.out hb3 hg4' (Nat.le_refl _) z3; have HO4 := Lib.hid how4; clear how4 hg4' hbl4))
          go_ret
          exact ⟨_, rfl, by rw [HF.out]; exact HO4.out, hb4⟩
      · rw [show ltL x t = false from by cases h2 : ltL x t with | false => rfl | true => have := ltL_trans hc h2; rw [ltL_irrefl] at this; cases this] at hlt
        rw [show (x == t) = false from by rw [beq_eq_false_iff_ne]; rintro rfl; rw [ltL_irrefl] at hc; cases hc] at heq
        have HN : Hid (putK L t L.length = putK L t j) := Lib.hid (HK.out.trans (putK_on hx hc))
        clear HK hx hc hxl
        go_wp2
        go_round
        case rel => exact ⟨j, by omega, by go_num, HN⟩
        case measure => simp [intOf]
end Go.Proofs.Ytklalbbacbaoiaa
