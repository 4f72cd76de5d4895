/- l25Reduce: the walk. l25Solved, FreeBits, impl and spec: the walks. -/
import Derived.Test.YtfcdienphillnaaGreatLr13
namespace Go.Proofs.YtfcdienphillnaaGreat
set_option linter.unusedVariables false
set_option linter.unusedSimpArgs false
open Go.RowKit
theorem runS_none {l lst ol : List Rw} {k : Nat} (H : Hid (runS k (l, []) = (lst, ol))) (h : lst.findIdx? (fun e => e.m.testBit k) = none) : Hid (runS (k + 1) (l, []) = (lst, ol)) :=
  Lib.hid (by rw [runS, H.out, stepS]; simp only [h])
theorem runS_some {l lst ol : List Rw} {k a : Nat} {row : Rw} (H : Hid (runS k (l, []) = (lst, ol))) (h : lst.findIdx? (fun e => e.m.testBit k) = some a) (hr : lst[a]? = some row) : Hid (runS (k + 1) (l, []) = ((lst.take a ++ lst.drop (a + 1)).map (addK k row), ol.map (addK k row) ++ [row])) :=
  Lib.hid (by rw [runS, H.out, stepS]; simp only [h, List.getD_eq_getElem?_getD, hr, Option.getD_some])
/-- how far the search for the first row with bit k has come -/
def SeekK (lst : List Rw) (k i : Nat) (x : Int) : Prop := (x = -1 ∧ ∀ j e, j < i → lst[j]? = some e → e.m.testBit k = false) ∨ (∃ a : Nat, x = a ∧ a < i ∧ lst.findIdx? (fun e => e.m.testBit k) = some a)
theorem seek_start (lst : List Rw) (k : Nat) : SeekK lst k 0 (-1) := .inl ⟨rfl, fun j e h => by omega⟩
theorem seek_no {lst : List Rw} {k i : Nat} {e : Rw} (h : ∀ j e, j < i → lst[j]? = some e → e.m.testBit k = false) (he : lst[i]? = some e) (ht : e.m.testBit k = false) : SeekK lst k (i + 1) (-1) :=
  .inl ⟨rfl, fun j e' hj he' => by
    by_cases e2 : j = i
    · subst e2; rw [he] at he'; cases he'; exact ht
    · exact h j e' (by omega) he'⟩
theorem seek_yes {lst : List Rw} {k i : Nat} {e : Rw} (h : ∀ j e, j < i → lst[j]? = some e → e.m.testBit k = false) (he : lst[i]? = some e) (ht : e.m.testBit k = true) : SeekK lst k (i + 1) (i : Int) := by
  obtain ⟨hi, rfl⟩ := List.getElem?_eq_some_iff.1 he
  refine .inr ⟨i, rfl, by omega, List.findIdx?_eq_some_iff_getElem.2 ⟨hi, ht, fun j hj => ?_⟩⟩
  rw [h j _ hj (List.getElem?_eq_getElem (by omega))]; decide
theorem seek_past {lst : List Rw} {k i a : Nat} (h1 : a < i) (h2 : lst.findIdx? (fun e => e.m.testBit k) = some a) : SeekK lst k (i + 1) (a : Int) := .inr ⟨a, rfl, by omega, h2⟩
theorem seek_none {lst : List Rw} {k : Nat} (h : ∀ j e, j < lst.length → lst[j]? = some e → e.m.testBit k = false) : lst.findIdx? (fun e => e.m.testBit k) = none := by
  rw [List.findIdx?_eq_none_iff]
  intro x hx
  obtain ⟨j, hj, rfl⟩ := List.getElem_of_mem hx
  exact h j _ hj (List.getElem?_eq_getElem hj)
theorem red_some {l lst ol : List Rw} (H : Hid (runS 64 (l, []) = (lst, ol))) (h : lst.any (·.r) = false) : redS l = some ol := by rw [redS, H.out, if_neg (by rw [h]; decide)]
theorem red_fail {l lst ol : List Rw} (H : Hid (runS 64 (l, []) = (lst, ol))) (h : lst.any (·.r) = true) : redS l = none := by rw [redS, H.out, if_pos h]
theorem take_cells {κ : IntKind} {e : TypeId} {B g n c : Nat} {w : World} {l : List Rw} (h : RowL κ e B w (.slice (some ⟨g, 0, none⟩) n c) l) (o a : Nat) : ∀ k b j u, ((l.drop o).take a)[k]? = some b → (rc κ b)[j]? = some u → w.cell? ⟨g, o * 2 + (k * 2 + j), none⟩ = some u := by
  intro k b j u hb hu
  rw [List.getElem?_take] at hb
  split at hb
  · rw [List.getElem?_drop] at hb
    have := OwnL.at1 (rc_len κ) h hb hu
    rw [Nat.add_mul, Nat.add_assoc] at this
    exact this
  · cases hb
theorem OwnL.cap {α : Type} {f : α → List Value} {z : Nat} {e : TypeId} {B g n c : Nat} {w : World} {l : List α} (h : OwnL f z e B w (.slice (some ⟨g, 0, none⟩) n c) l) : n ≤ c ∧ c ≤ maxLen := by
  have hn : l.length = n := by
    obtain ⟨A, c', h1, _⟩ := h.shape
    injection h1 with _ h1 _; exact h1.symm
  rcases h.2 with ⟨h', _⟩ | ⟨g', cap, cur, h', _, _, hnc, hm, _⟩
  · cases h'
  · injection h' with _ _ h3
    subst h3
    exact ⟨by omega, hm⟩
theorem any_yes {l : List Rw} {j : Nat} {e : Rw} {X : Bool} (he : l[j]? = some e) (H : Hid (X = (l.drop j).any (·.r))) (h : e.r = true) : X = true := by
  obtain ⟨hk, rfl⟩ := List.getElem?_eq_some_iff.1 he
  rw [H.out, List.drop_eq_getElem_cons hk, List.any_cons, h, Bool.true_or]
theorem any_no {l : List Rw} {j : Nat} {e : Rw} {X : Bool} (he : l[j]? = some e) (H : Hid (X = (l.drop j).any (·.r))) (h : e.r = false) : Hid (X = (l.drop (j + 1)).any (·.r)) := by
  obtain ⟨hk, rfl⟩ := List.getElem?_eq_some_iff.1 he
  exact Lib.hid (by rw [H.out, List.drop_eq_getElem_cons hk, List.any_cons, h, Bool.false_or])
set_option maxRecDepth 20000 in
set_option maxHeartbeats 8000000 in
theorem red_s (B : Nat) (l : List Rw) (v : Value) (w : World) (h : RowL .u64 210 B w v l) (hl : ∀ e ∈ l, e.m < 18446744073709551616) (hn : l.length ≤ 1048576) :
    Calls Tryz.prog 167 #[v] w fun e w' => redQ 210 .u64 w (redS l) e w' := by
  obtain ⟨i0, hi, hz0, hz1, hz2⟩ := info_parts rowu_info
  have HI := Lib.hid (fun k => runS_inv (u := 64) (l := l) hl k)
  have HO0 := Lib.hid (OwnL.below h (Below.alloc (Below.refl _ _) (Nat.le_refl _) (.cells #[] 210)))
  have hb0 : Below w.heap.size w (w.alloc (.cells #[] 210)) := Below.alloc (Below.refl _ _) (Nat.le_refl _) _
  obtain ⟨A, cA, rfl, hA⟩ := h.shape
  clear hl h
  go_enter Tryz.func167, Tryz.ntmps167
  go_wp2_with (at_builtin; refine wpList_appAll (rc .u64) 2 (rc_len .u64) _ rfl _ _ _ rfl w.heap.size B 210 210 i0 (.agg #[.int .u64 0, .int .u64 0]) 16 Tryz.underlying176 hi hz0 hz1 hz2 rfl (by decide) _ [] rfl (OwnL.of_empty w (Nat.le_refl _)) _ l rfl HO0.out (rc_one .u64) (by simp; omega) (by omega) (by simp) ?_; intro lv1 w1 how1 hg1; have hb1 : Below w.heap.size w w1 := own_grown_below (OwnL.of_empty (f := rc .u64) (z := 2) (α := Rw) w (Nat.le_refl _)) hb0 hg1 (Nat.le_refl _) (by simp); have HO1 : Hid (RowL .u64 210 w.heap.size w1 lv1 l) := Lib.hid how1; clear how1 hg1)
  have hz1' := hb1.size
  have x4 : Below w1.heap.size w1 (w1.alloc (.cells #[] 210)) := Below.alloc (Below.refl _ _) (Nat.le_refl _) _
  have HO2 := Lib.hid (OwnL.below HO1.out x4)
  have HOO : Hid (RowL .u64 210 w.heap.size (w1.alloc (.cells #[] 210)) (.slice (some ⟨w1.heap.size, 0, none⟩) 0 0) []) := Lib.hid (OwnL.of_empty w1 hz1')
  have hbb := hb1.trans (x4.mono hz1')
  have hne : ∀ b, lv1.ownBlock = some b → (Value.slice (some ⟨w1.heap.size, 0, none⟩) 0 0).ownBlock ≠ some b := fun b hb he => by
    have := (World.ownsRow.lt HO1.out b hb).2
    simp [Value.ownBlock] at he; omega
  have HNE := Lib.hid hne
  clear x4 HO1 hb1 HO0 hb0 hA hne
  go_loopw [6, 4, 5] (fun i x y wr => ∃ (k : Nat) (lst ol : List Rw), k ≤ 64 ∧ i = .int .i64 k ∧ Below w.heap.size w wr ∧ Hid (RowL .u64 210 w.heap.size wr x lst) ∧ Hid (RowL .u64 210 w.heap.size wr y ol) ∧ Hid (∀ b, x.ownBlock = some b → y.ownBlock ≠ some b) ∧ Hid (runS k (l, []) = (lst, ol))) (fun i _ _ _ => 64 - (intOf i).toNat)
  case atStart => exact ⟨0, l, [], by omega, rfl, hbb, HO2, HOO, HNE, Lib.hid rfl⟩
  case round =>
    clear HO2 HOO HNE hbb hz1'
    obtain ⟨k, lst, ol, hk, rfl, hb, HL, HO, HNE, HK⟩ := hrel
    have zr := hb.size
    have hinv := HI.out k
    rw [HK.out] at hinv
    have hlen := hinv.len
    have HL1 := Lib.hid hinv.lt1
    have HL2 := Lib.hid hinv.lt2
    simp only at hlen HL1 HL2
    clear hinv
    obtain ⟨Al, cl, hvl, hAl⟩ := OwnL.shape HL.out
    obtain ⟨Ao, co, hvo, hAo⟩ := OwnL.shape HO.out
    subst hvl
    subst hvo
    by_cases hlt : k < 64
    · go_wp2
      go_loop [8, 7] (fun i x => ∃ (j : Nat) (y : Int), j ≤ lst.length ∧ i = .int .i64 j ∧ x = .int .i64 y ∧ Hid (SeekK lst k j y)) (fun i _ => lst.length - (intOf i).toNat)
      case atStart => exact ⟨0, -1, by omega, rfl, rfl, Lib.hid (seek_start _ _)⟩
      case round =>
        obtain ⟨j, y, hj, rfl, rfl, HS⟩ := hrel
        by_cases hltj : j < lst.length
        · obtain ⟨e, he⟩ : ∃ e, lst[j]? = some e := ⟨lst[j], List.getElem?_eq_getElem hltj⟩
          obtain ⟨gl, rfl, hgl1, hgl2⟩ := hAl.resolve_left (by intro h0; rw [h0] at hltj; simp at hltj)
          have k0 := OwnL.at1 (rc_len .u64) HL.out he (j := 0) rfl
          simp only [Nat.add_zero] at k0
          have hel := HL1.out e (List.mem_of_getElem? he)
          have hbv := u64_bit e.m k hel
          have hbv2 : bits .and .u64 ((e.m : Int) / 2 ^ min k 64) 1 = bi (e.m.testBit k) := by rw [Nat.min_eq_left (by omega)]; exact hbv
          rcases HS.out with ⟨rfl, hall⟩ | ⟨a, rfl, ha1, ha2⟩
          · cases ht : e.m.testBit k
            · rw [ht, bi_f] at hbv hbv2
              have HN := Lib.hid (seek_no hall he ht)
              clear he ht hall
              go_wp2
              go_round
              case rel => exact ⟨j + 1, -1, by omega, by go_num, rfl, HN⟩
              case measure => simp [intOf]; omega
            · rw [ht, bi_t] at hbv hbv2
              have HN := Lib.hid (seek_yes hall he ht)
              clear he ht hall
              go_wp2
              go_round
              case rel => exact ⟨j + 1, j, by omega, by go_num, rfl, HN⟩
              case measure => simp [intOf]; omega
          · have HN := Lib.hid (seek_past ha1 ha2)
            have hd : decide ((a : Int) < 0) = false := decide_eq_false (by omega)
            clear he ha2
            go_wp2
            go_round
            case rel => exact ⟨j + 1, a, by omega, by go_num, rfl, HN⟩
            case measure => simp [intOf]; omega
        · obtain rfl : j = lst.length := by omega
          rcases HS.out with ⟨rfl, hall⟩ | ⟨a, rfl, ha1, ha2⟩
          · have HN := runS_none HK (seek_none hall)
            clear hall
            go_wp2
            go_roundw
            case rel => exact ⟨k + 1, lst, ol, by omega, by go_num, hb, HL, HO, HNE, HN⟩
            case measure => simp [intOf]; omega
          · have hd : decide ((a : Int) < 0) = false := decide_eq_false (by omega)
            obtain ⟨row, hrow⟩ : ∃ row, lst[a]? = some row := ⟨lst[a], List.getElem?_eq_getElem ha1⟩
            have HN := runS_some HK ha2 hrow
            obtain ⟨gl, rfl, hgl1, hgl2⟩ := hAl.resolve_left (by intro h0; rw [h0] at ha1; simp at ha1)
            have k0 := OwnL.at1 (rc_len .u64) HL.out hrow (j := 0) rfl
            have k1 := OwnL.at1 (rc_len .u64) HL.out hrow (j := 1) rfl
            simp only [Nat.add_zero] at k0
            have hrl := HL1.out row (List.mem_of_getElem? hrow)
            clear hrow ha2
            obtain ⟨hcl1, hcl2⟩ := OwnL.cap HL.out
            have hll : lst.length ≤ 1048576 := by omega
            have HT : Hid (∀ W : World, Below wr.heap.size wr W → ∀ o n k b j u, ((lst.drop o).take n)[k]? = some b → (rc .u64 b)[j]? = some u → W.cell? ⟨gl, o * 2 + (k * 2 + j), none⟩ = some u) := Lib.hid fun W hW o n => take_cells (OwnL.below HL.out hW) o n
            have hbW : Below wr.heap.size wr ((wr.alloc (.cells #[.int .u64 row.m, .int .u64 (bi row.r)] 210)).alloc (.cells #[] 210)) := Below.alloc (Below.alloc (Below.refl _ _) (Nat.le_refl _) _) (by simp) _
            have HE1 : Hid (RowL .u64 210 (wr.heap.size + 1) ((wr.alloc (.cells #[.int .u64 row.m, .int .u64 (bi row.r)] 210)).alloc (.cells #[] 210)) (.slice (some ⟨wr.heap.size + 1, 0, none⟩) 0 0) []) := Lib.hid (by have := OwnL.of_empty (f := rc .u64) (z := 2) (α := Rw) (e := 210) (B := wr.heap.size + 1) (wr.alloc (.cells #[.int .u64 row.m, .int .u64 (bi row.r)] 210)) (by simp); simpa using this)
            have x0 : ((wr.alloc (.cells #[.int .u64 row.m, .int .u64 (bi row.r)] 210)).alloc (.cells #[] 210)).cell? ⟨wr.heap.size, 0, none⟩ = some (.int .u64 row.m) := by simp [go_sem]
            have x1 : ((wr.alloc (.cells #[.int .u64 row.m, .int .u64 (bi row.r)] 210)).alloc (.cells #[] 210)).cell? ⟨wr.heap.size, 1, none⟩ = some (.int .u64 (bi row.r)) := by simp [go_sem]
            have zW : wr.heap.size + 2 = ((wr.alloc (.cells #[.int .u64 row.m, .int .u64 (bi row.r)] 210)).alloc (.cells #[] 210)).heap.size := by simp
            have hdl : (lst.drop (a + 1)).length = lst.length - (a + 1) := by simp
            have htl : (lst.take a).length = a := by simp; omega
            have hdt : lst.drop (a + 1) = (lst.drop (a + 1)).take (lst.length - (a + 1)) := by rw [List.take_of_length_le (by simp)]
            have HDT := Lib.hid hdt
            have hn2 : (lst.take a).length + (lst.length - (a + 1)) ≤ 16777216 := by omega
            clear hdt
            rcases Decidable.em (cl = a + 1) with hce | hce
            all_goals go_wp2_with (first
              | (at_builtin; refine wpList_appSub (rc .u64) 2 (rc_len .u64) _ rfl _ _ _ rfl (wr.heap.size + 1) 210 i0 (.agg #[.int .u64 0, .int .u64 0]) 16 Tryz.underlying176 hi hz0 hz1 hz2 rfl (by decide) _ [] rfl HE1.out gl _ _ _ (lst.take a) htl rfl ?_ (rc_one .u64) (by first | omega | (simp; done) | (simp; omega)) (by decide) (by first | omega | (simp; done) | (simp; omega)) ?_; (· intro k b j u hb hu; have := HT.out _ hbW 0 a k b j u (by simpa using hb) hu; simpa using this); intro lv2 w2 how2 hg2' hbl2; have hg2 : ((wr.alloc (.cells #[.int .u64 row.m, .int .u64 (bi row.r)] 210)).alloc (.cells #[] 210)).grownBy w2 (some (wr.heap.size + 1)) := hg2'; have hb2 : Below wr.heap.size wr w2 := own_grown_below HE1.out hbW hg2' (Nat.le_succ _) hbW.size; have zg2 := hg2.size; have z2 : wr.heap.size + 2 ≤ w2.heap.size := Nat.le_trans (Nat.le_of_eq zW) zg2; have y0 := World.grownBy.cell hg2 (a := ⟨wr.heap.size, 0, none⟩) x0 (by simp); have y1 := World.grownBy.cell hg2 (a := ⟨wr.heap.size, 1, none⟩) x1 (by simp); have HO2 : Hid (RowL .u64 210 (wr.heap.size + 1) w2 lv2 (lst.take a)) := Lib.hid how2; clear hg2 hg2' hbl2 how2 zg2)
              | (at_builtin; refine wpList_appSub (rc .u64) 2 (rc_len .u64) _ rfl _ _ _ rfl (wr.heap.size + 1) 210 i0 (.agg #[.int .u64 0, .int .u64 0]) 16 Tryz.underlying176 hi hz0 hz1 hz2 rfl (by decide) _ (lst.take a) rfl HO2.out gl _ _ _ (lst.drop (a + 1)) hdl rfl ?_ (rc_one .u64) hn2 (by decide) (Nat.le_of_succ_le z2) ?_; (· intro k b j u hb hu; rw [HDT.out] at hb; first | (have := HT.out _ hb2 (a + 1) _ k b j u hb hu; first | exact this | simpa using this) | (exfalso; have := (List.getElem?_eq_some_iff.1 hb).1; simp at this; omega)); intro lv3 w3 how3 hg3 hbl3; have hb3 : Below wr.heap.size wr w3 := own_grown_below HO2.out hb2 hg3 (Nat.le_succ _) hb2.size; have zg3 := hg3.size; have z3 : wr.heap.size + 2 ≤ w3.heap.size := Nat.le_trans z2 zg3; have hne2 : ∀ b, lv2.ownBlock = some b → b ≠ wr.heap.size := fun b hb => Nat.ne_of_gt (World.ownsRow.lt HO2.out b hb).1; have t0 := World.grownBy.cell hg3 (a := ⟨wr.heap.size, 0, none⟩) y0 (fun he => hne2 _ he.symm rfl); have t1 := World.grownBy.cell hg3 (a := ⟨wr.heap.size, 1, none⟩) y1 (fun he => hne2 _ he.symm rfl); have HO3 := Lib.hid how3; clear hg3 hbl3 how3 zg3 hne2))
            all_goals
              have hl3 : ∀ e ∈ lst.take a ++ lst.drop (a + 1), e.m < 18446744073709551616 := fun e he => by
                rcases List.mem_append.1 he with he | he
                · exact HL1.out e (List.mem_of_mem_take he)
                · exact HL1.out e (List.mem_of_mem_drop he)
              have hll3 : (lst.take a ++ lst.drop (a + 1)).length ≤ 1048576 := by rw [List.length_append, htl, hdl]; omega
              refine (add_s (wr.heap.size + 1) _ lv3 k row w3 HO3.out hlt hl3 hrl hll3).mono ?_; rintro e w4 ⟨rfl, o4, g4⟩
              have hon : ∀ b, lv3.ownBlock = some b → wr.heap.size + 1 ≤ b ∧ b < w3.heap.size := fun b hb => World.ownsRow.lt HO3.out b hb
              have hoo : ∀ b, (Value.slice Ao ol.length co).ownBlock = some b → w.heap.size ≤ b ∧ b < wr.heap.size := fun b hb => World.ownsRow.lt HO.out b hb
              have hdis : (Value.slice Ao ol.length co).ownBlock = none ∨ (Value.slice Ao ol.length co).ownBlock ≠ lv3.ownBlock := by
                cases h1 : (Value.slice Ao ol.length co).ownBlock with
                | none => exact .inl rfl
                | some b => exact .inr fun he => by have := hoo b h1; have := hon b he.symm; omega
              have hdis2 : lv3.ownBlock = none ∨ lv3.ownBlock ≠ (Value.slice Ao ol.length co).ownBlock := by
                cases h1 : lv3.ownBlock with
                | none => exact .inl rfl
                | some b => exact .inr fun he => by have := hon b h1; have := hoo b he.symm; omega
              have O4 := Lib.hid (OwnL.kept (OwnL.below HO.out hb3) g4 hdis)
              have r0 := World.grownBy.cell g4 (a := ⟨wr.heap.size, 0, none⟩) t0 (fun he => absurd (hon _ he.symm).1 (Nat.not_succ_le_self _))
              have r1 := World.grownBy.cell g4 (a := ⟨wr.heap.size, 1, none⟩) t1 (fun he => absurd (hon _ he.symm).1 (Nat.not_succ_le_self _))
              have hb4 : Below wr.heap.size wr w4 := own_grown_below HO3.out hb3 g4 (by omega) (by omega)
              have z4 := g4.size
              go_wp2_with (fail)
              refine (add_s w.heap.size ol _ k row w4 O4.out hlt HL2.out hrl (by omega)).mono ?_; rintro e w5 ⟨rfl, o5, g5⟩
              have L5 := Lib.hid (OwnL.kept o4 g5 hdis2)
              have s0 := World.grownBy.cell g5 (a := ⟨wr.heap.size, 0, none⟩) r0 (fun he => absurd (hoo _ he.symm).2 (Nat.lt_irrefl _))
              have s1 := World.grownBy.cell g5 (a := ⟨wr.heap.size, 1, none⟩) r1 (fun he => absurd (hoo _ he.symm).2 (Nat.lt_irrefl _))
              have hb5 : Below w.heap.size w w5 := own_grown_below O4.out (hb.trans (hb4.mono zr)) g5 (by omega) (by omega)
              have z5 := g5.size
              have zw5 := hb5.size
              have O5 := Lib.hid o5
              have hn5 : (ol.map (addK k row)).length + 1 ≤ 16777216 := by simp; omega
              have hbase5 : w.heap.size ≤ (w5.alloc (.cells #[.int .u64 row.m, .int .u64 (bi row.r)] 210)).heap.size := by simp; omega
              have hzz5 : (w5.alloc (.cells #[.int .u64 row.m, .int .u64 (bi row.r)] 210)).heap.size = w5.heap.size + 1 := by simp
              clear o4 o5 g4 g5 HO3 HT HE1 HO2 hb2 hb3 hb4 t0 t1 r0 r1 x0 x1 y0 y1 k0 k1 hbW zW O4 HDT
              go_wp2_with (at_builtin; refine wpList_app1at (rc .u64) 2 (rc_len .u64) _ rfl _ _ _ rfl w.heap.size 210 i0 (.agg #[.int .u64 0, .int .u64 0]) 16 Tryz.underlying176 hi hz0 hz1 hz2 rfl (by decide) _ (ol.map (addK k row)) rfl (O5.out.alloc _) _ 1 row rfl ?_ (rc_one .u64 _) hn5 (by decide) hbase5 ?_; (· exact rowc_news .u64 row.m row.r (by simp) (by simp)); intro v' w8 how8 hg8' hbl8'; have hg8 : (w5.alloc (.cells #[.int .u64 row.m, .int .u64 (bi row.r)] 210)).grownBy w8 (Value.slice Ao ol.length co).ownBlock := hg8'; have hbl8 : v'.ownBlock = (Value.slice Ao ol.length co).ownBlock ∨ v'.ownBlock = some (w5.alloc (.cells #[.int .u64 row.m, .int .u64 (bi row.r)] 210)).heap.size := hbl8'; clear hg8' hbl8')
              have hal : Below w5.heap.size w5 (w5.alloc (.cells #[.int .u64 row.m, .int .u64 (bi row.r)] 210)) := Below.alloc (Below.refl _ _) (Nat.le_refl _) _
              have L8 := OwnL.kept (OwnL.below L5.out hal) hg8 hdis2
              have hb8 : Below w.heap.size w w8 := own_grown_below (O5.out.alloc (.cells #[.int .u64 row.m, .int .u64 (bi row.r)] 210)) (hb5.trans (hal.mono zw5)) hg8 (Nat.le_refl _) hbase5
              have hn8 : ∀ b, lv3.ownBlock = some b → v'.ownBlock ≠ some b := fun b h1 h2 => by
                have h3 := hon b h1
                have h4 := (World.ownsRow.lt L5.out b h1).2
                rcases hbl8 with h5 | h5
                · rw [h5] at h2; have := hoo b h2; omega
                · rw [h5] at h2; have := Option.some.inj h2; rw [hzz5] at this; omega
              go_roundw
              case rel => first | exact ⟨k + 1, _, _, by omega, by go_num, hb8, Lib.hid (OwnL.base L8 (by omega)), Lib.hid how8, Lib.hid hn8, HN⟩ | ((repeat apply Exists.intro); exact ⟨⟨k + 1, _, _, by omega, by go_num, hb8, Lib.hid (OwnL.base L8 (by omega)), Lib.hid how8, Lib.hid hn8, HN⟩, rfl⟩)
              case measure => simp [intOf]; omega
    · obtain rfl : k = 64 := by omega
      go_wp2
      go_loop [11] (fun i => ∃ j : Nat, j ≤ lst.length ∧ i = .int .i64 j ∧ Hid (lst.any (·.r) = (lst.drop j).any (·.r))) (fun i => lst.length - (intOf i).toNat)
      case atStart => exact ⟨0, by omega, rfl, Lib.hid rfl⟩
      case round =>
        obtain ⟨j, hj, rfl, HA⟩ := hrel
        by_cases hltj : j < lst.length
        · obtain ⟨e, he⟩ : ∃ e, lst[j]? = some e := ⟨lst[j], List.getElem?_eq_getElem hltj⟩
          obtain ⟨gl, rfl, hgl1, hgl2⟩ := hAl.resolve_left (by intro h0; rw [h0] at hltj; simp at hltj)
          have k1 := OwnL.at1 (rc_len .u64) HL.out he (j := 1) rfl
          cases ht : e.r
          · rw [ht, bi_f] at k1
            have HN := any_no he HA ht
            clear he ht
            go_wp2
            go_round
            case rel => exact ⟨j + 1, by omega, by go_num, HN⟩
            case measure => simp [intOf]; omega
          · rw [ht, bi_t] at k1
            have HE := Lib.hid (red_fail HK (any_yes he HA ht))
            clear he ht
            go_wp2
            exact bodyPost_ret (v := .tuple #[.slice none 0 0, .bool false]) (by simp [results, Tryz.results167, go_sem] <;> rfl) rfl ⟨_, by rw [HE.out]; rfl, by rw [HE.out]; exact OwnL.of_nil, hb⟩
        · obtain rfl : j = lst.length := by omega
          have HE := Lib.hid (red_some HK (by rw [HA.out, List.drop_length]; rfl))
          have HO2 := HO.out
          go_wp2
          exact bodyPost_ret (v := .tuple #[.slice Ao ol.length co, .bool true]) (by simp [results, Tryz.results167, go_sem] <;> rfl) rfl ⟨_, by rw [HE.out]; rfl, by rw [HE.out]; exact HO2, hb⟩
end Go.Proofs.YtfcdienphillnaaGreat
namespace Go.Proofs.YtfcdienphillnaaGreat
set_option linter.unusedVariables false
set_option linter.unusedSimpArgs false
open Go.RowKit
def restOf (s : ByteArray) (u : List Nat) (c : Nat) : Nat := crcN (clrN (bts s) u) 65535 ^^^ c
def rowsOf (s : ByteArray) (u : List Nat) (c : Nat) : List Rw := rowsR s.size u (restOf s u c)
theorem rowsOf_lt {s : ByteArray} {u : List Nat} {c : Nat} (h : u.length ≤ 64) : ∀ e ∈ rowsOf s u c, e.m < 18446744073709551616 := fun e he =>
  Nat.lt_of_lt_of_le (rowsR_lt _ _ _ e he) (Nat.pow_le_pow_right (n := 2) (by omega) h)
theorem rowsOf_len (s : ByteArray) (u : List Nat) (c : Nat) : (rowsOf s u c).length = 16 := rowsR_len _ _ _
def cdO (X : Option (List Rw)) : Int := match X with | none => 3 | some _ => 0
/-- the reference's solved form -/
def solQ (s : ByteArray) (u : List Nat) (c : Nat) (w : World) (e : Ending) (w' : World) : Prop := ∃ v', e = .returned (.tuple #[v', .int .i64 (cdO (redS (rowsOf s u c)))]) ∧ RowL .u64 210 w.heap.size w' v' ((redS (rowsOf s u c)).getD []) ∧ Below w.heap.size w w'
set_option maxHeartbeats 1000000 in
theorem solved_no (s : ByteArray) (l : List Int) (v : Value) (c : Int) (w : World) (h : IntsAt w v l) (hm : l.length ≤ 1048576) (hs : s.size ≤ 1048576) (hok : unkOk s l c = false) :
    Calls Tryz.prog 140 #[.string s, v, .int .i64 c] w fun e w' => e = .returned (.tuple #[.slice none 0 0, .int .i64 1]) ∧ Below w.heap.size w w' := by
  have HA := Lib.hid (ask_s s l v c w h hm hs)
  rw [hok] at HA
  obtain ⟨A, cA, rfl, _⟩ := h
  go_enter Tryz.func140, Tryz.ntmps140
  go_wp2_with (fail)
  refine HA.out.mono ?_; rintro e w1 ⟨rfl, hb1⟩
  go_wp2
  exact bodyPost_ret (v := .tuple #[.slice none 0 0, .int .i64 1]) (by simp [results, Tryz.results140, go_sem] <;> rfl) rfl ⟨rfl, hb1⟩
set_option maxRecDepth 20000 in
set_option maxHeartbeats 2000000 in
theorem solved_s (s : ByteArray) (u : List Nat) (v : Value) (c : Nat) (w : World) (h : IntsAt w v (intsN u)) (hok : unkOk s (intsN u) c = true) (hu : ∀ b ∈ u, b < 8 * s.size) (hs : s.size ≤ 64) (hm : u.length ≤ 64) (hc : c < 65536) :
    Calls Tryz.prog 140 #[.string s, v, .int .i64 c] w fun e w' => solQ s u c w e w' := by
  have HA := Lib.hid (ask_s s (intsN u) v c w h (by rw [intsN_len]; omega) (by omega))
  rw [hok] at HA
  have HR := Lib.hid (fun w' (hb : Below w.heap.size w w') => rows_s s u v c w' (h.below hb) hu hs hm hc)
  have HX := Lib.hid (fun B v1 w' (o : RowL .u64 210 B w' v1 (rowsOf s u c)) => red_s B (rowsOf s u c) v1 w' o (rowsOf_lt hm) (by rw [rowsOf_len]; omega))
  obtain ⟨A, cA, rfl, _⟩ := h
  unfold solQ
  have he : rowsR s.size u (crcN (clrN (bts s) u) 65535 ^^^ c) = rowsOf s u c := rfl
  rw [he] at HR
  unfold redQ at HX
  generalize rowsOf s u c = R at *
  generalize redS R = X at *
  clear he hok
  go_enter Tryz.func140, Tryz.ntmps140
  go_wp2_with (fail)
  refine HA.out.mono ?_; rintro e w1 ⟨rfl, hb1⟩
  go_wp2_with (fail)
  refine (HR.out _ hb1).mono ?_; rintro e w2 ⟨v2, rfl, o2, hb2⟩
  have z1 := hb1.size
  have hb02 := hb1.trans (hb2.mono z1)
  have z2 := hb02.size
  obtain ⟨A2, c2, rfl, _⟩ := OwnL.shape o2
  have HO2 := Lib.hid o2
  clear o2
  go_wp2_with (fail)
  refine (HX.out _ _ _ HO2.out).mono ?_; rintro e w3 ⟨v3, rfl, o3, hb3⟩
  have hb03 := hb02.trans (hb3.mono z2)
  cases X with
  | none =>
    go_wp2
    exact bodyPost_ret (v := .tuple #[.slice none 0 0, .int .i64 3]) (by simp [results, Tryz.results140, go_sem] <;> rfl) rfl ⟨_, rfl, OwnL.of_nil, hb03⟩
  | some x =>
    go_wp2
    exact bodyPost_ret (v := .tuple #[v3, .int .i64 0]) (by simp [results, Tryz.results140, go_sem] <;> rfl) rfl ⟨_, rfl, OwnL.base o3 z2, hb03⟩
def frE (s : ByteArray) (l : List Int) (c : Int) : Int × Int := if unkOk s l c then (match redS (rowsOf s (l.map Int.toNat) c.toNat) with | none => (0, 3) | some x => ((l.length : Int) - x.length, 0)) else (0, 1)
def frV (s : ByteArray) (l : List Int) (c : Int) : Value := .tuple #[.int .i64 (frE s l c).1, .int .i64 (frE s l c).2]
end Go.Proofs.YtfcdienphillnaaGreat
