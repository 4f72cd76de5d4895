/- The laws' drawn dumps. -/
import Derived.Test.YtignjjkldmninaaFillS
import Derived.Test.YtignjjkldmninaaDjk
import Derived.Test.YtignjjkldmninaaAppAt
import Derived.Test.YtignjjkldmninaaVDumps
import Derived.Test.YtignjjkldmninaaDrawB
import Derived.Test.YtignjjkldmninaaVSec2
import Derived.Test.YtignjjkldmninaaSMerge
import Derived.Deep.RegionLaw
import Derived.Deep.AppendLies
import Derived.Deep.Cut
/- The reference's drawn dumps: the walk. -/
/- The state in which discs are drawn: a source and a boxed disc. -/
/- The reference's drawn sectors. -/
namespace Go.Proofs.Ytignjjkldmninaa
set_option linter.unusedVariables false
open Go.RowKit
/-- the world behind a draw that made new blocks -/
def DrNew (g : Nat) (A : Option Addr) (n c a m : Nat) (w w' : World) : Prop := ∃ a', a ≤ a' ∧ a' ≤ a + m ∧ DrAt w' g A n c a' ∧ Chg g (g + 1) w w'
theorem Row.chgIn {w w' : World} {b B E : Nat} {us : List Value} (h : Row w b us) (hc : Chg B E w w') (hl : b < w.heap.size) (hd : b < B ∨ E ≤ b) : Row w' b us := fun j u hu => (World.cell?_of_block (a := ⟨b, j, none⟩) (hc.block b hl (by omega))).trans (h j u hu)
theorem frozen_chg {w w' : World} {b B E : Nat} {v : Bool} (h : ∀ o, w.frozen? ⟨b, o, none⟩ = v) (hc : Chg B E w w') (hl : b < w.heap.size) (hd : b < B ∨ E ≤ b) : ∀ o, w'.frozen? ⟨b, o, none⟩ = v := fun o => (World.frozen?_of_block (a := ⟨b, o, none⟩) (hc.block b hl (by omega))).trans (h o)
theorem Chg.setNew {B E b o : Nat} {w W : World} (h : Chg B E w W) (hb : w.heap.size ≤ b) (u : Value) : Chg B E w (W.setCell ⟨b, o, none⟩ u) :=
  ⟨h.os, h.tape, h.output, by simpa using h.size, fun k hk hne => (Below.heap_setCell W ⟨b, o, none⟩ u k (by intro e; have e' : k = b := e; omega)).trans (h.block k hk hne)⟩
theorem DrAt.setNew {w : World} {g b o : Nat} {A : Option Addr} {n c a : Nat} (h : DrAt w g A n c a) (hb : g < b) (u : Value) : DrAt (w.setCell ⟨b, o, none⟩ u) g A n c a :=
  h.keep (fun k hk => Below.heap_setCell w ⟨b, o, none⟩ u k (by intro e; have e' : k = b := e; omega)) (by simp)
theorem alloc_fr {w : World} {cs : Array Value} {e : TypeId} : ∀ o, (w.alloc (.cells cs e)).frozen? ⟨w.heap.size, o, none⟩ = false := by intro o; simp [go_sem]
theorem sec_parts {s : Sec} {n : Nat} (h : (1 ≤ s.state ∧ s.state ≤ 4) ∧ s.state ≠ 3) (hz : s.data.size = n) : secOk s n = true := secOk_yes (inB_t h.1) hz (by simpa using h.2)
set_option maxRecDepth 20000 in
set_option maxHeartbeats 8000000 in
theorem drwSec (g : Nat) (A : Option Addr) (n c a : Nat) (K : Int) (w : World) (h : DrAt w g A n c a) (hn : n ≤ 1048576) (ha : a ≤ 1073741824) (hK : 0 ≤ K ∧ K ≤ 2) :
    Calls Try.prog 124 #[.pointer (some ⟨g, 0, none⟩), .int .i64 K] w fun e w' => ∃ s : Sec, e = .returned (.agg #[.string s.data, .int .i64 s.state]) ∧ secOk s (szN K) = true ∧ DrNew g A n c a 10 w w' := by
  have hZ := szN_le hK
  obtain ⟨i1, ji, jz0, jz1, jz2⟩ := info_parts ucell_info
  have D0 := h.alloc (.cells #[.string .empty, .int .i64 0] 48)
  have Z0 : Row (w.alloc (.cells #[.string .empty, .int .i64 0] 48)) w.heap.size [.string .empty, .int .i64 0] := Row.alloc w _ _
  have f0 : ∀ o, (w.alloc (.cells #[.string .empty, .int .i64 0] 48)).frozen? ⟨w.heap.size, o, none⟩ = false := alloc_fr
  have C0 : Chg g (g + 1) w (w.alloc (.cells #[.string .empty, .int .i64 0] 48)) := (Chg.of_below (Below.refl _ _)).alloc _
  have hgw := h.lt
  clear h
  rcases (by omega : K = 0 ∨ K = 1 ∨ K = 2) with rfl | rfl | rfl
  · have hNN : szN 0 = 8 := by rfl
    rw [hNN]
    obtain ⟨NN, hNv⟩ : ∃ NN : Nat, NN = 8 := ⟨_, rfl⟩
    rw [← hNv]
    have HNV := Lib.hid hNv
    have hN2 : NN ≤ 32 ∧ 8 ≤ NN := by omega
    clear hZ hNN hNv
    go_enter Try.func124, Try.ntmps124
    go_wp2_with (fail)
    refine (pick_s g A n c a 3 _ D0 hn (by omega) (by omega)).mono ?_; rintro e w1 ⟨r1, hr1, rfl, a1, h11, h12, D1, C1, S1⟩
    obtain ⟨bN, hbN, hb⟩ : ∃ bN : Nat, bN < 256 ∧ IntKind.u8.wrap (65 + (r1 : Int)) = (bN : Int) := ⟨65 + r1, by omega, by rw [IntKind.wrap_u8]; omega⟩
    have hr65 : (r1 : Int) ≤ 2 := by omega
    have Z1 := Z0.chgIn C1 (by simp) (by omega)
    have f1 := frozen_chg f0 C1 (by simp) (by omega)
    have C01 := Lib.hid (C0.trans C1)
    have S1' : w.heap.size + 1 ≤ w1.heap.size := by rw [S1]; simp
    have HO0 : Hid (BytesL w1.heap.size (w1.alloc (.cells #[] 5)) (.slice (some ⟨w1.heap.size, 0, none⟩) 0 0) []) := Lib.hid (OwnL.of_empty w1 (Nat.le_refl _))
    have B10 : Below w1.heap.size w1 (w1.alloc (.cells #[] 5)) := Below.alloc (Below.refl _ _) (Nat.le_refl _) _
    have HZ1 := Lib.hid (And.intro Z1 f1)
    clear D0 Z0 f0 C0 C1 S1 Z1 f1
    go_wp2_with (fail)
    go_loopw [7, 6] (fun i out wx => ∃ (k2 : Nat) (bl : List Nat), k2 ≤ NN ∧ i = .int .i64 k2 ∧ bl.length = NN - k2 ∧ Hid (∀ x ∈ bl, x < 256) ∧ Below w1.heap.size w1 wx ∧ Hid (BytesL w1.heap.size wx out bl)) (fun i _ _ => (intOf i).toNat)
    case atStart => exact ⟨NN, [], Nat.le_refl _, by rw [HNV.out]; rfl, by simp, Lib.hid (by simp), B10, HO0⟩
    case round =>
      clear HO0 B10
      obtain ⟨k2, bl, hk2, rfl, hbl, HBT, hb1, HO⟩ := hrel
      have zr := hb1.size
      by_cases hlt : 0 < k2
      · have hl1 : bl.length + 1 ≤ 16777216 := by omega
        have hbase : w1.heap.size ≤ (wr.alloc (.cells #[.int .u8 (bN : Int)] 5)).heap.size := by simp; omega
        obtain ⟨A8, c8, rfl, _⟩ := OwnL.shape HO.out
        have HBL := Lib.hid hbl
        clear hbl
        go_wp2_with (at_builtin; refine wpList_app1 ucell 1 ucell_len _ rfl _ _ _ rfl w1.heap.size 5 i1 (.int .u8 0) 1 Try.underlying70 ji jz0 jz1 jz2 rfl (by decide) _ bl rfl (HO.out.alloc _) _ 1 bN rfl ?_ (by simp [ucell, Value.oneCell']) hl1 (by decide) hbase ?_; (· intro j u hu; cases j with | zero => (simp [ucell] at hu; subst hu; simp) | succ j => simp [ucell] at hu); intro v8 w8 how8 hg8'; have hb8 : Below w1.heap.size w1 w8 := own_grown_below (HO.out.alloc (.cells #[.int .u8 (bN : Int)] 5)) (Below.alloc hb1 zr _) hg8' (Nat.le_refl _) hbase; have HO8 := Lib.hid how8; clear how8 hg8')
        go_roundw
        case rel => exact ⟨k2 - 1, bl ++ [bN], by omega, by go_num, by simp [HBL.out]; omega, Lib.hid (fun x hx => by
          rcases List.mem_append.1 hx with hx | hx
          · exact HBT.out x hx
          · obtain rfl : x = bN := by simpa using hx
            exact hbN), hb8, HO8⟩
        case measure => simp [intOf]; omega
      · obtain rfl : k2 = 0 := by omega
        have hbz : bl.length = NN := by omega
        obtain ⟨A8, cb, rfl, hA8⟩ := OwnL.shape HO.out
        obtain ⟨gb, rfl, hgb1, hgb2⟩ := hA8.resolve_left (by rintro rfl; simp at hbz; omega)
        have HB := Lib.hid (BytesL.buf HO.out rfl)
        have D1w := D1.belowK hb1 (by omega)
        have HC1 := Lib.hid (C01.out.belowK hb1 (by omega))
        have HZw := Lib.hid (And.intro (HZ1.out.1.below hb1 (by omega)) (frozen_belowK HZ1.out.2 hb1 (by omega)))
        try rw [hbz]
        have HL := Lib.hid (And.intro hbz HBT.out)
        clear HO D1 C01 HZ1 hA8 hbl hbz HBT
        go_wp2_with (fail)
        refine (one_s g A n c a1 4 _ D1w hn (by omega) (by omega)).mono ?_; rintro e w2 ⟨b2, rfl, a2, h21, h22, D2, C2, S2⟩
        have HB2 := Lib.hid (HB.out.block (C2.block gb hgb2 (by omega)))
        have HC2 := Lib.hid (HC1.out.trans C2)
        have HZ2 := Lib.hid (And.intro (HZw.out.1.chgIn C2 (by omega) (by omega)) (frozen_chg HZw.out.2 C2 (by omega) (by omega)))
        have z2 : gb < w2.heap.size := by omega
        clear D1w HB HC1 HZw C2 S2
        cases b2
        · obtain ⟨W3, rfl⟩ : ∃ W3, W3 = w2 := ⟨w2, rfl⟩
          obtain ⟨a3, rfl⟩ : ∃ a3, a3 = a2 := ⟨a2, rfl⟩
          obtain ⟨b3, hb3⟩ : ∃ b3, b3 = bl := ⟨bl, rfl⟩
          have HB3 := HB2
          rw [← hb3] at HB3 HL
          have HC3 := HC2
          have HZ3 := HZ2
          have D3 := D2
          have z3 : gb < W3.heap.size := z2
          have ha3 : a3 ≤ a + 6 ∧ a ≤ a3 := by omega
          clear HB2 HC2 HZ2 D2 z2 hb3
          have hst := HB3.out.str (n := NN) (c := cb) HL.out.1
          have D4 := (D3.alloc (.cells #[.string (strN b3), .int .i64 0] 48)).alloc (.cells #[.int .i64 1, .int .i64 1, .int .i64 1, .int .i64 2, .int .i64 3, .int .i64 4] 2)
          have hg3 := D3.lt
          have z4 : (W3.alloc (.cells #[.string (strN b3), .int .i64 0] 48)).heap.size = W3.heap.size + 1 := by simp
          have zz3 : w.heap.size < W3.heap.size := by omega
          go_wp2_with (fail)
          refine (among_s g A n c a3 (W3.heap.size + 1) 6 [1, 1, 1, 2, 3, 4] _ D4 hn (by omega) (by simp) (by simp) (by omega) (by simp) ?_).mono ?_
          · intro j x hj
            match j, hj with
            | 0, hj => simp at hj; subst hj; simp
            | 1, hj => simp at hj; subst hj; simp
            | 2, hj => simp at hj; subst hj; simp
            | 3, hj => simp at hj; subst hj; simp
            | 4, hj => simp at hj; subst hj; simp
            | 5, hj => simp at hj; subst hj; simp
            | j + 6, hj => simp at hj
          rintro e w6 ⟨x, hx, rfl, a6, h61, h62, D6, C6, S6⟩
          have x4 : Row (W3.alloc (.cells #[.string (strN b3), .int .i64 0] 48)) W3.heap.size [.string (strN b3), .int .i64 0] := Row.alloc W3 _ _
          have g4 : ∀ o, (W3.alloc (.cells #[.string (strN b3), .int .i64 0] 48)).frozen? ⟨W3.heap.size, o, none⟩ = false := alloc_fr
          have ba : Below (W3.alloc (.cells #[.string (strN b3), .int .i64 0] 48)).heap.size (W3.alloc (.cells #[.string (strN b3), .int .i64 0] 48)) ((W3.alloc (.cells #[.string (strN b3), .int .i64 0] 48)).alloc (.cells #[.int .i64 1, .int .i64 1, .int .i64 1, .int .i64 2, .int .i64 3, .int .i64 4] 2)) := Below.alloc (Below.refl _ _) (Nat.le_refl _) _
          have X6 := (x4.below ba (by omega)).chgIn C6 (by simp; omega) (by omega)
          have G6 := frozen_chg (frozen_below g4 ba (by omega)) C6 (by simp; omega) (by omega)
          have Z6 := ((HZ3.out.1.below (Below.alloc (Below.refl W3.heap.size W3) (Nat.le_refl _) (.cells #[.string (strN b3), .int .i64 0] 48)) zz3).below ba (by omega)).chgIn C6 (by simp; omega) (by omega)
          have F6 := frozen_chg (frozen_below (frozen_below HZ3.out.2 (Below.alloc (Below.refl W3.heap.size W3) (Nat.le_refl _) (.cells #[.string (strN b3), .int .i64 0] 48)) zz3) ba (by omega)) C6 (by simp; omega) (by omega)
          have HC6 := Lib.hid (((HC3.out.alloc (.cells #[.string (strN b3), .int .i64 0] 48)).alloc (.cells #[.int .i64 1, .int .i64 1, .int .i64 1, .int .i64 2, .int .i64 3, .int .i64 4] 2)).trans C6)
          have z6 : W3.heap.size < w6.heap.size := by rw [S6]; simp; omega
          clear S6
          have lbo : w.heap.size < W3.heap.size := by omega
          have hgbo : g < W3.heap.size := by omega
          have hdz : (strN b3).size = NN := by rw [strN_size]; exact HL.out.1
          generalize strN b3 = d at *
          generalize W3.heap.size = bo at *
          clear D4 hst HB3 HC3 HZ3 x4 g4 ba z4 D3 C6
          have x60 := X6 0 _ rfl
          have x61 := X6 1 _ rfl
          have z60 := Z6 0 _ rfl
          have z61 := Z6 1 _ rfl
          have g60 := G6 0
          have g61 := G6 1
          have f60 := F6 0
          have f61 := F6 1
          have hne : bo ≠ w.heap.size := by omega
          have hne2 : w.heap.size ≠ bo := by omega
          by_cases hx3 : x = 3
          · subst hx3
            clear hx
            obtain ⟨w8, hm8, hbz8, hb8, hz8⟩ := buf_made (w6.setCell ⟨bo, 1, none⟩ (.int .i64 3)) NN (by omega)
            have hbz9 : Buf w8 w6.heap.size (List.replicate NN 0) := by rw [show w6.heap.size = (w6.setCell ⟨bo, 1, none⟩ (.int .i64 3)).heap.size by simp]; exact hbz8
            have hst8 := hbz9.str (n := NN) (c := NN) (by simp)
            have lb6 : bo < (w6.setCell ⟨bo, 1, none⟩ (.int .i64 3)).heap.size := by simp; omega
            have lw6 : w.heap.size < (w6.setCell ⟨bo, 1, none⟩ (.int .i64 3)).heap.size := by simp; omega
            have X8 := (X6.set (o := 1) (.int .i64 3) (by simp)).below hb8 lb6
            have Z8 := (Z6.set_other (g := bo) (o := 1) (.int .i64 3) hne2).below hb8 lw6
            have G8 := frozen_below (fun o => (setCell_frozen w6 ⟨bo, 1, none⟩ ⟨bo, o, none⟩ (.int .i64 3)).trans (G6 o)) hb8 lb6
            have F8 := frozen_below (fun o => (setCell_frozen w6 ⟨bo, 1, none⟩ ⟨w.heap.size, o, none⟩ (.int .i64 3)).trans (F6 o)) hb8 lw6
            have x80 := X8 0 _ rfl
            have x81 : w8.cell? ⟨bo, 1, none⟩ = some (.int .i64 3) := X8 1 _ rfl
            have z80 := Z8 0 _ rfl
            have z81 := Z8 1 _ rfl
            have g80 := G8 0
            have f80 := F8 0
            have f81 := F8 1
            have C8 := (HC6.out.setNew (b := bo) (o := 1) (by omega) (.int .i64 3)).belowK hb8 (by simp; omega)
            have D8 := (D6.setNew (b := bo) (o := 1) hgbo (.int .i64 3)).belowK hb8 (by simp; omega)
            have hzs : (strN (List.replicate NN 0)).size = NN := by rw [strN_size]; simp
            have hok : secOk ⟨strN (List.replicate NN 0), 3⟩ NN = true := (secOk_eq rfl hzs rfl).trans (by simp)
            clear hz8 X8 G8 F8 hbz8 hbz9 hb8 X6 G6 Z6 F6
            go_wp2
            clear hst8
            generalize strN (List.replicate NN 0) = zz at *
            have Z9 := (Z8.set_other (g := bo) (o := 0) (.string zz) hne2).setL [Value.string zz, .int .i64 3] (by simp)
            have C9 := (((C8.setNew (b := bo) (o := 0) (by omega) (.string zz)).setNew (b := w.heap.size) (o := 0) (Nat.le_refl _) (.string zz))).setNew (b := w.heap.size) (o := 1) (Nat.le_refl _) (.int .i64 3)
            have D9 := ((D8.setNew (b := bo) (o := 0) hgbo (.string zz)).setNew (b := w.heap.size) (o := 0) hgw (.string zz)).setNew (b := w.heap.size) (o := 1) hgw (.int .i64 3)
            show bodyPost _ _ _ _ _ (setL (w8.setCell ⟨bo, 0, none⟩ (.string zz)) w.heap.size 0 [Value.string zz, .int .i64 3])
            change Row (setL (w8.setCell ⟨bo, 0, none⟩ (.string zz)) w.heap.size 0 [Value.string zz, .int .i64 3]) _ _ at Z9
            change Chg _ _ _ (setL (w8.setCell ⟨bo, 0, none⟩ (.string zz)) w.heap.size 0 [Value.string zz, .int .i64 3]) at C9
            change DrAt (setL (w8.setCell ⟨bo, 0, none⟩ (.string zz)) w.heap.size 0 [Value.string zz, .int .i64 3]) _ _ _ _ _ at D9
            generalize setL (w8.setCell ⟨bo, 0, none⟩ (.string zz)) w.heap.size 0 [Value.string zz, .int .i64 3] = W at *
            have s0 := Z9 0 _ rfl
            have s1 := Z9 1 _ rfl
            refine bodyPost_ret (v := .agg #[.string zz, .int .i64 3]) (by simp [results, Try.results124, go_sem, s0, s1]; try done) rfl ⟨⟨zz, 3⟩, rfl, hok, a6, by omega, by omega, D9, C9⟩
          · have hx1 : 1 ≤ x ∧ x ≤ 4 := by simp at hx; omega
            have d3 : (x == 3) = false := by simpa using hx3
            clear hx
            go_wp2
            have Z9 := (Z6.set_other (g := bo) (o := 1) (.int .i64 x) hne2).setL [Value.string d, .int .i64 x] (by simp)
            have C9 := (((HC6.out.setNew (b := bo) (o := 1) (by omega) (.int .i64 x)).setNew (b := w.heap.size) (o := 0) (Nat.le_refl _) (.string d))).setNew (b := w.heap.size) (o := 1) (Nat.le_refl _) (.int .i64 x)
            have D9 := ((D6.setNew (b := bo) (o := 1) hgbo (.int .i64 x)).setNew (b := w.heap.size) (o := 0) hgw (.string d)).setNew (b := w.heap.size) (o := 1) hgw (.int .i64 x)
            show bodyPost _ _ _ _ _ (setL (w6.setCell ⟨bo, 1, none⟩ (.int .i64 x)) w.heap.size 0 [Value.string d, .int .i64 x])
            change Row (setL (w6.setCell ⟨bo, 1, none⟩ (.int .i64 x)) w.heap.size 0 [Value.string d, .int .i64 x]) _ _ at Z9
            change Chg _ _ _ (setL (w6.setCell ⟨bo, 1, none⟩ (.int .i64 x)) w.heap.size 0 [Value.string d, .int .i64 x]) at C9
            change DrAt (setL (w6.setCell ⟨bo, 1, none⟩ (.int .i64 x)) w.heap.size 0 [Value.string d, .int .i64 x]) _ _ _ _ _ at D9
            generalize setL (w6.setCell ⟨bo, 1, none⟩ (.int .i64 x)) w.heap.size 0 [Value.string d, .int .i64 x] = W at *
            have s0 := Z9 0 _ rfl
            have s1 := Z9 1 _ rfl
            refine bodyPost_ret (v := .agg #[.string d, .int .i64 x]) (by simp [results, Try.results124, go_sem, s0, s1]; try done) rfl ⟨⟨d, x⟩, rfl, sec_parts ⟨hx1, hx3⟩ hdz, a6, by omega, by omega, D9, C9⟩
        · go_wp2_with (fail)
          refine (next_s g A n c a2 _ D2 hn (by omega)).mono ?_; rintro e w3 ⟨r3, hr3, rfl, D3', C3, S3⟩
          have hr3b : IntKind.u8.wrap (r3 : Int) = (r3 : Int) := by rw [IntKind.wrap_u8]; omega
          obtain ⟨x0, hx0⟩ : ∃ x, bl[0]? = some x := ⟨bl[0]'(by have := HL.out.1; omega), List.getElem?_eq_getElem (by have := HL.out.1; omega)⟩
          have HBw := HB2.out.block (C3.block gb z2 (by omega))
          obtain ⟨p0, q0⟩ := HBw 0 x0 hx0
          have HB3 := Lib.hid (HBw.set r3 hx0)
          have HC3 := Lib.hid ((HC2.out.trans C3).setNew (b := gb) (o := 0) (by omega) (.int .u8 (r3 : Int)))
          have HZ3 : Hid (Row (w3.setCell ⟨gb, 0, none⟩ (.int .u8 (r3 : Int))) w.heap.size [.string .empty, .int .i64 0] ∧ ∀ o, (w3.setCell ⟨gb, 0, none⟩ (.int .u8 (r3 : Int))).frozen? ⟨w.heap.size, o, none⟩ = false) := Lib.hid (And.intro ((HZ2.out.1.chgIn C3 (by omega) (by omega)).set_other (g := gb) (o := 0) (.int .u8 (r3 : Int)) (by omega)) (fun o => (setCell_frozen _ _ ⟨w.heap.size, o, none⟩ _).trans (frozen_chg HZ2.out.2 C3 (by omega) (by omega) o)))
          have D3 := D3'.setNew (b := gb) (o := 0) (by omega) (.int .u8 (r3 : Int))
          have HL3 : Hid ((bl.set 0 r3).length = NN ∧ ∀ x ∈ bl.set 0 r3, x < 256) := Lib.hid ⟨by rw [List.length_set]; exact HL.out.1, fun x hx => by
            rcases List.mem_or_eq_of_mem_set hx with hx | rfl
            · exact HL.out.2 x hx
            · exact hr3⟩
          clear HL
          have HL := HL3
          have ha3 : a2 + 1 ≤ a + 6 ∧ a ≤ a2 + 1 := by omega
          have z3 : gb < (w3.setCell ⟨gb, 0, none⟩ (.int .u8 (r3 : Int))).heap.size := by simp; omega
          clear S3
          clear HB2 HC2 HZ2 D2 z2 HBw hx0 D3' C3
          go_upto_region 9 with (fail)
          generalize bl.set 0 r3 = b3 at *
          generalize w3.setCell ⟨gb, 0, none⟩ (.int .u8 (r3 : Int)) = W3 at *
          generalize a2 + 1 = a3 at *
          clear p0 q0 HL3
          have hst := HB3.out.str (n := NN) (c := cb) HL.out.1
          have D4 := (D3.alloc (.cells #[.string (strN b3), .int .i64 0] 48)).alloc (.cells #[.int .i64 1, .int .i64 1, .int .i64 1, .int .i64 2, .int .i64 3, .int .i64 4] 2)
          have hg3 := D3.lt
          have z4 : (W3.alloc (.cells #[.string (strN b3), .int .i64 0] 48)).heap.size = W3.heap.size + 1 := by simp
          have zz3 : w.heap.size < W3.heap.size := by omega
          go_wp2_with (fail)
          refine (among_s g A n c a3 (W3.heap.size + 1) 6 [1, 1, 1, 2, 3, 4] _ D4 hn (by omega) (by simp) (by simp) (by omega) (by simp) ?_).mono ?_
          · intro j x hj
            match j, hj with
            | 0, hj => simp at hj; subst hj; simp
            | 1, hj => simp at hj; subst hj; simp
            | 2, hj => simp at hj; subst hj; simp
            | 3, hj => simp at hj; subst hj; simp
            | 4, hj => simp at hj; subst hj; simp
            | 5, hj => simp at hj; subst hj; simp
            | j + 6, hj => simp at hj
          rintro e w6 ⟨x, hx, rfl, a6, h61, h62, D6, C6, S6⟩
          have x4 : Row (W3.alloc (.cells #[.string (strN b3), .int .i64 0] 48)) W3.heap.size [.string (strN b3), .int .i64 0] := Row.alloc W3 _ _
          have g4 : ∀ o, (W3.alloc (.cells #[.string (strN b3), .int .i64 0] 48)).frozen? ⟨W3.heap.size, o, none⟩ = false := alloc_fr
          have ba : Below (W3.alloc (.cells #[.string (strN b3), .int .i64 0] 48)).heap.size (W3.alloc (.cells #[.string (strN b3), .int .i64 0] 48)) ((W3.alloc (.cells #[.string (strN b3), .int .i64 0] 48)).alloc (.cells #[.int .i64 1, .int .i64 1, .int .i64 1, .int .i64 2, .int .i64 3, .int .i64 4] 2)) := Below.alloc (Below.refl _ _) (Nat.le_refl _) _
          have X6 := (x4.below ba (by omega)).chgIn C6 (by simp; omega) (by omega)
          have G6 := frozen_chg (frozen_below g4 ba (by omega)) C6 (by simp; omega) (by omega)
          have Z6 := ((HZ3.out.1.below (Below.alloc (Below.refl W3.heap.size W3) (Nat.le_refl _) (.cells #[.string (strN b3), .int .i64 0] 48)) zz3).below ba (by omega)).chgIn C6 (by simp; omega) (by omega)
          have F6 := frozen_chg (frozen_below (frozen_below HZ3.out.2 (Below.alloc (Below.refl W3.heap.size W3) (Nat.le_refl _) (.cells #[.string (strN b3), .int .i64 0] 48)) zz3) ba (by omega)) C6 (by simp; omega) (by omega)
          have HC6 := Lib.hid (((HC3.out.alloc (.cells #[.string (strN b3), .int .i64 0] 48)).alloc (.cells #[.int .i64 1, .int .i64 1, .int .i64 1, .int .i64 2, .int .i64 3, .int .i64 4] 2)).trans C6)
          have z6 : W3.heap.size < w6.heap.size := by rw [S6]; simp; omega
          clear S6
          have lbo : w.heap.size < W3.heap.size := by omega
          have hgbo : g < W3.heap.size := by omega
          have hdz : (strN b3).size = NN := by rw [strN_size]; exact HL.out.1
          generalize strN b3 = d at *
          generalize W3.heap.size = bo at *
          clear D4 hst HB3 HC3 HZ3 x4 g4 ba z4 D3 C6
          have x60 := X6 0 _ rfl
          have x61 := X6 1 _ rfl
          have z60 := Z6 0 _ rfl
          have z61 := Z6 1 _ rfl
          have g60 := G6 0
          have g61 := G6 1
          have f60 := F6 0
          have f61 := F6 1
          have hne : bo ≠ w.heap.size := by omega
          have hne2 : w.heap.size ≠ bo := by omega
          by_cases hx3 : x = 3
          · subst hx3
            clear hx
            obtain ⟨w8, hm8, hbz8, hb8, hz8⟩ := buf_made (w6.setCell ⟨bo, 1, none⟩ (.int .i64 3)) NN (by omega)
            have hbz9 : Buf w8 w6.heap.size (List.replicate NN 0) := by rw [show w6.heap.size = (w6.setCell ⟨bo, 1, none⟩ (.int .i64 3)).heap.size by simp]; exact hbz8
            have hst8 := hbz9.str (n := NN) (c := NN) (by simp)
            have lb6 : bo < (w6.setCell ⟨bo, 1, none⟩ (.int .i64 3)).heap.size := by simp; omega
            have lw6 : w.heap.size < (w6.setCell ⟨bo, 1, none⟩ (.int .i64 3)).heap.size := by simp; omega
            have X8 := (X6.set (o := 1) (.int .i64 3) (by simp)).below hb8 lb6
            have Z8 := (Z6.set_other (g := bo) (o := 1) (.int .i64 3) hne2).below hb8 lw6
            have G8 := frozen_below (fun o => (setCell_frozen w6 ⟨bo, 1, none⟩ ⟨bo, o, none⟩ (.int .i64 3)).trans (G6 o)) hb8 lb6
            have F8 := frozen_below (fun o => (setCell_frozen w6 ⟨bo, 1, none⟩ ⟨w.heap.size, o, none⟩ (.int .i64 3)).trans (F6 o)) hb8 lw6
            have x80 := X8 0 _ rfl
            have x81 : w8.cell? ⟨bo, 1, none⟩ = some (.int .i64 3) := X8 1 _ rfl
            have z80 := Z8 0 _ rfl
            have z81 := Z8 1 _ rfl
            have g80 := G8 0
            have f80 := F8 0
            have f81 := F8 1
            have C8 := (HC6.out.setNew (b := bo) (o := 1) (by omega) (.int .i64 3)).belowK hb8 (by simp; omega)
            have D8 := (D6.setNew (b := bo) (o := 1) hgbo (.int .i64 3)).belowK hb8 (by simp; omega)
            have hzs : (strN (List.replicate NN 0)).size = NN := by rw [strN_size]; simp
            have hok : secOk ⟨strN (List.replicate NN 0), 3⟩ NN = true := (secOk_eq rfl hzs rfl).trans (by simp)
            clear hz8 X8 G8 F8 hbz8 hbz9 hb8 X6 G6 Z6 F6
            go_wp2
            clear hst8
            generalize strN (List.replicate NN 0) = zz at *
            have Z9 := (Z8.set_other (g := bo) (o := 0) (.string zz) hne2).setL [Value.string zz, .int .i64 3] (by simp)
            have C9 := (((C8.setNew (b := bo) (o := 0) (by omega) (.string zz)).setNew (b := w.heap.size) (o := 0) (Nat.le_refl _) (.string zz))).setNew (b := w.heap.size) (o := 1) (Nat.le_refl _) (.int .i64 3)
            have D9 := ((D8.setNew (b := bo) (o := 0) hgbo (.string zz)).setNew (b := w.heap.size) (o := 0) hgw (.string zz)).setNew (b := w.heap.size) (o := 1) hgw (.int .i64 3)
            show bodyPost _ _ _ _ _ (setL (w8.setCell ⟨bo, 0, none⟩ (.string zz)) w.heap.size 0 [Value.string zz, .int .i64 3])
            change Row (setL (w8.setCell ⟨bo, 0, none⟩ (.string zz)) w.heap.size 0 [Value.string zz, .int .i64 3]) _ _ at Z9
            change Chg _ _ _ (setL (w8.setCell ⟨bo, 0, none⟩ (.string zz)) w.heap.size 0 [Value.string zz, .int .i64 3]) at C9
            change DrAt (setL (w8.setCell ⟨bo, 0, none⟩ (.string zz)) w.heap.size 0 [Value.string zz, .int .i64 3]) _ _ _ _ _ at D9
            generalize setL (w8.setCell ⟨bo, 0, none⟩ (.string zz)) w.heap.size 0 [Value.string zz, .int .i64 3] = W at *
            have s0 := Z9 0 _ rfl
            have s1 := Z9 1 _ rfl
            refine bodyPost_ret (v := .agg #[.string zz, .int .i64 3]) (by simp [results, Try.results124, go_sem, s0, s1]; try done) rfl ⟨⟨zz, 3⟩, rfl, hok, a6, by omega, by omega, D9, C9⟩
          · have hx1 : 1 ≤ x ∧ x ≤ 4 := by simp at hx; omega
            have d3 : (x == 3) = false := by simpa using hx3
            clear hx
            go_wp2
            have Z9 := (Z6.set_other (g := bo) (o := 1) (.int .i64 x) hne2).setL [Value.string d, .int .i64 x] (by simp)
            have C9 := (((HC6.out.setNew (b := bo) (o := 1) (by omega) (.int .i64 x)).setNew (b := w.heap.size) (o := 0) (Nat.le_refl _) (.string d))).setNew (b := w.heap.size) (o := 1) (Nat.le_refl _) (.int .i64 x)
            have D9 := ((D6.setNew (b := bo) (o := 1) hgbo (.int .i64 x)).setNew (b := w.heap.size) (o := 0) hgw (.string d)).setNew (b := w.heap.size) (o := 1) hgw (.int .i64 x)
            show bodyPost _ _ _ _ _ (setL (w6.setCell ⟨bo, 1, none⟩ (.int .i64 x)) w.heap.size 0 [Value.string d, .int .i64 x])
            change Row (setL (w6.setCell ⟨bo, 1, none⟩ (.int .i64 x)) w.heap.size 0 [Value.string d, .int .i64 x]) _ _ at Z9
            change Chg _ _ _ (setL (w6.setCell ⟨bo, 1, none⟩ (.int .i64 x)) w.heap.size 0 [Value.string d, .int .i64 x]) at C9
            change DrAt (setL (w6.setCell ⟨bo, 1, none⟩ (.int .i64 x)) w.heap.size 0 [Value.string d, .int .i64 x]) _ _ _ _ _ at D9
            generalize setL (w6.setCell ⟨bo, 1, none⟩ (.int .i64 x)) w.heap.size 0 [Value.string d, .int .i64 x] = W at *
            have s0 := Z9 0 _ rfl
            have s1 := Z9 1 _ rfl
            refine bodyPost_ret (v := .agg #[.string d, .int .i64 x]) (by simp [results, Try.results124, go_sem, s0, s1]; try done) rfl ⟨⟨d, x⟩, rfl, sec_parts ⟨hx1, hx3⟩ hdz, a6, by omega, by omega, D9, C9⟩
  · have hNN : szN 1 = 16 := by rfl
    rw [hNN]
    obtain ⟨NN, hNv⟩ : ∃ NN : Nat, NN = 16 := ⟨_, rfl⟩
    rw [← hNv]
    have HNV := Lib.hid hNv
    have hN2 : NN ≤ 32 ∧ 8 ≤ NN := by omega
    clear hZ hNN hNv
    go_enter Try.func124, Try.ntmps124
    go_wp2_with (fail)
    refine (pick_s g A n c a 3 _ D0 hn (by omega) (by omega)).mono ?_; rintro e w1 ⟨r1, hr1, rfl, a1, h11, h12, D1, C1, S1⟩
    obtain ⟨bN, hbN, hb⟩ : ∃ bN : Nat, bN < 256 ∧ IntKind.u8.wrap (65 + (r1 : Int)) = (bN : Int) := ⟨65 + r1, by omega, by rw [IntKind.wrap_u8]; omega⟩
    have hr65 : (r1 : Int) ≤ 2 := by omega
    have Z1 := Z0.chgIn C1 (by simp) (by omega)
    have f1 := frozen_chg f0 C1 (by simp) (by omega)
    have C01 := Lib.hid (C0.trans C1)
    have S1' : w.heap.size + 1 ≤ w1.heap.size := by rw [S1]; simp
    have HO0 : Hid (BytesL w1.heap.size (w1.alloc (.cells #[] 5)) (.slice (some ⟨w1.heap.size, 0, none⟩) 0 0) []) := Lib.hid (OwnL.of_empty w1 (Nat.le_refl _))
    have B10 : Below w1.heap.size w1 (w1.alloc (.cells #[] 5)) := Below.alloc (Below.refl _ _) (Nat.le_refl _) _
    have HZ1 := Lib.hid (And.intro Z1 f1)
    clear D0 Z0 f0 C0 C1 S1 Z1 f1
    go_wp2_with (fail)
    go_loopw [7, 6] (fun i out wx => ∃ (k2 : Nat) (bl : List Nat), k2 ≤ NN ∧ i = .int .i64 k2 ∧ bl.length = NN - k2 ∧ Hid (∀ x ∈ bl, x < 256) ∧ Below w1.heap.size w1 wx ∧ Hid (BytesL w1.heap.size wx out bl)) (fun i _ _ => (intOf i).toNat)
    case atStart => exact ⟨NN, [], Nat.le_refl _, by rw [HNV.out]; rfl, by simp, Lib.hid (by simp), B10, HO0⟩
    case round =>
      clear HO0 B10
      obtain ⟨k2, bl, hk2, rfl, hbl, HBT, hb1, HO⟩ := hrel
      have zr := hb1.size
      by_cases hlt : 0 < k2
      · have hl1 : bl.length + 1 ≤ 16777216 := by omega
        have hbase : w1.heap.size ≤ (wr.alloc (.cells #[.int .u8 (bN : Int)] 5)).heap.size := by simp; omega
        obtain ⟨A8, c8, rfl, _⟩ := OwnL.shape HO.out
        have HBL := Lib.hid hbl
        clear hbl
        go_wp2_with (at_builtin; refine wpList_app1 ucell 1 ucell_len _ rfl _ _ _ rfl w1.heap.size 5 i1 (.int .u8 0) 1 Try.underlying70 ji jz0 jz1 jz2 rfl (by decide) _ bl rfl (HO.out.alloc _) _ 1 bN rfl ?_ (by simp [ucell, Value.oneCell']) hl1 (by decide) hbase ?_; (· intro j u hu; cases j with | zero => (simp [ucell] at hu; subst hu; simp) | succ j => simp [ucell] at hu); intro v8 w8 how8 hg8'; have hb8 : Below w1.heap.size w1 w8 := own_grown_below (HO.out.alloc (.cells #[.int .u8 (bN : Int)] 5)) (Below.alloc hb1 zr _) hg8' (Nat.le_refl _) hbase; have HO8 := Lib.hid how8; clear how8 hg8')
        go_roundw
        case rel => exact ⟨k2 - 1, bl ++ [bN], by omega, by go_num, by simp [HBL.out]; omega, Lib.hid (fun x hx => by
          rcases List.mem_append.1 hx with hx | hx
          · exact HBT.out x hx
          · obtain rfl : x = bN := by simpa using hx
            exact hbN), hb8, HO8⟩
        case measure => simp [intOf]; omega
      · obtain rfl : k2 = 0 := by omega
        have hbz : bl.length = NN := by omega
        obtain ⟨A8, cb, rfl, hA8⟩ := OwnL.shape HO.out
        obtain ⟨gb, rfl, hgb1, hgb2⟩ := hA8.resolve_left (by rintro rfl; simp at hbz; omega)
        have HB := Lib.hid (BytesL.buf HO.out rfl)
        have D1w := D1.belowK hb1 (by omega)
        have HC1 := Lib.hid (C01.out.belowK hb1 (by omega))
        have HZw := Lib.hid (And.intro (HZ1.out.1.below hb1 (by omega)) (frozen_belowK HZ1.out.2 hb1 (by omega)))
        try rw [hbz]
        have HL := Lib.hid (And.intro hbz HBT.out)
        clear HO D1 C01 HZ1 hA8 hbl hbz HBT
        go_wp2_with (fail)
        refine (one_s g A n c a1 4 _ D1w hn (by omega) (by omega)).mono ?_; rintro e w2 ⟨b2, rfl, a2, h21, h22, D2, C2, S2⟩
        have HB2 := Lib.hid (HB.out.block (C2.block gb hgb2 (by omega)))
        have HC2 := Lib.hid (HC1.out.trans C2)
        have HZ2 := Lib.hid (And.intro (HZw.out.1.chgIn C2 (by omega) (by omega)) (frozen_chg HZw.out.2 C2 (by omega) (by omega)))
        have z2 : gb < w2.heap.size := by omega
        clear D1w HB HC1 HZw C2 S2
        cases b2
        · obtain ⟨W3, rfl⟩ : ∃ W3, W3 = w2 := ⟨w2, rfl⟩
          obtain ⟨a3, rfl⟩ : ∃ a3, a3 = a2 := ⟨a2, rfl⟩
          obtain ⟨b3, hb3⟩ : ∃ b3, b3 = bl := ⟨bl, rfl⟩
          have HB3 := HB2
          rw [← hb3] at HB3 HL
          have HC3 := HC2
          have HZ3 := HZ2
          have D3 := D2
          have z3 : gb < W3.heap.size := z2
          have ha3 : a3 ≤ a + 6 ∧ a ≤ a3 := by omega
          clear HB2 HC2 HZ2 D2 z2 hb3
          have hst := HB3.out.str (n := NN) (c := cb) HL.out.1
          have D4 := (D3.alloc (.cells #[.string (strN b3), .int .i64 0] 48)).alloc (.cells #[.int .i64 1, .int .i64 1, .int .i64 1, .int .i64 2, .int .i64 3, .int .i64 4] 2)
          have hg3 := D3.lt
          have z4 : (W3.alloc (.cells #[.string (strN b3), .int .i64 0] 48)).heap.size = W3.heap.size + 1 := by simp
          have zz3 : w.heap.size < W3.heap.size := by omega
          go_wp2_with (fail)
          refine (among_s g A n c a3 (W3.heap.size + 1) 6 [1, 1, 1, 2, 3, 4] _ D4 hn (by omega) (by simp) (by simp) (by omega) (by simp) ?_).mono ?_
          · intro j x hj
            match j, hj with
            | 0, hj => simp at hj; subst hj; simp
            | 1, hj => simp at hj; subst hj; simp
            | 2, hj => simp at hj; subst hj; simp
            | 3, hj => simp at hj; subst hj; simp
            | 4, hj => simp at hj; subst hj; simp
            | 5, hj => simp at hj; subst hj; simp
            | j + 6, hj => simp at hj
          rintro e w6 ⟨x, hx, rfl, a6, h61, h62, D6, C6, S6⟩
          have x4 : Row (W3.alloc (.cells #[.string (strN b3), .int .i64 0] 48)) W3.heap.size [.string (strN b3), .int .i64 0] := Row.alloc W3 _ _
          have g4 : ∀ o, (W3.alloc (.cells #[.string (strN b3), .int .i64 0] 48)).frozen? ⟨W3.heap.size, o, none⟩ = false := alloc_fr
          have ba : Below (W3.alloc (.cells #[.string (strN b3), .int .i64 0] 48)).heap.size (W3.alloc (.cells #[.string (strN b3), .int .i64 0] 48)) ((W3.alloc (.cells #[.string (strN b3), .int .i64 0] 48)).alloc (.cells #[.int .i64 1, .int .i64 1, .int .i64 1, .int .i64 2, .int .i64 3, .int .i64 4] 2)) := Below.alloc (Below.refl _ _) (Nat.le_refl _) _
          have X6 := (x4.below ba (by omega)).chgIn C6 (by simp; omega) (by omega)
          have G6 := frozen_chg (frozen_below g4 ba (by omega)) C6 (by simp; omega) (by omega)
          have Z6 := ((HZ3.out.1.below (Below.alloc (Below.refl W3.heap.size W3) (Nat.le_refl _) (.cells #[.string (strN b3), .int .i64 0] 48)) zz3).below ba (by omega)).chgIn C6 (by simp; omega) (by omega)
          have F6 := frozen_chg (frozen_below (frozen_below HZ3.out.2 (Below.alloc (Below.refl W3.heap.size W3) (Nat.le_refl _) (.cells #[.string (strN b3), .int .i64 0] 48)) zz3) ba (by omega)) C6 (by simp; omega) (by omega)
          have HC6 := Lib.hid (((HC3.out.alloc (.cells #[.string (strN b3), .int .i64 0] 48)).alloc (.cells #[.int .i64 1, .int .i64 1, .int .i64 1, .int .i64 2, .int .i64 3, .int .i64 4] 2)).trans C6)
          have z6 : W3.heap.size < w6.heap.size := by rw [S6]; simp; omega
          clear S6
          have lbo : w.heap.size < W3.heap.size := by omega
          have hgbo : g < W3.heap.size := by omega
          have hdz : (strN b3).size = NN := by rw [strN_size]; exact HL.out.1
          generalize strN b3 = d at *
          generalize W3.heap.size = bo at *
          clear D4 hst HB3 HC3 HZ3 x4 g4 ba z4 D3 C6
          have x60 := X6 0 _ rfl
          have x61 := X6 1 _ rfl
          have z60 := Z6 0 _ rfl
          have z61 := Z6 1 _ rfl
          have g60 := G6 0
          have g61 := G6 1
          have f60 := F6 0
          have f61 := F6 1
          have hne : bo ≠ w.heap.size := by omega
          have hne2 : w.heap.size ≠ bo := by omega
          by_cases hx3 : x = 3
          · subst hx3
            clear hx
            obtain ⟨w8, hm8, hbz8, hb8, hz8⟩ := buf_made (w6.setCell ⟨bo, 1, none⟩ (.int .i64 3)) NN (by omega)
            have hbz9 : Buf w8 w6.heap.size (List.replicate NN 0) := by rw [show w6.heap.size = (w6.setCell ⟨bo, 1, none⟩ (.int .i64 3)).heap.size by simp]; exact hbz8
            have hst8 := hbz9.str (n := NN) (c := NN) (by simp)
            have lb6 : bo < (w6.setCell ⟨bo, 1, none⟩ (.int .i64 3)).heap.size := by simp; omega
            have lw6 : w.heap.size < (w6.setCell ⟨bo, 1, none⟩ (.int .i64 3)).heap.size := by simp; omega
            have X8 := (X6.set (o := 1) (.int .i64 3) (by simp)).below hb8 lb6
            have Z8 := (Z6.set_other (g := bo) (o := 1) (.int .i64 3) hne2).below hb8 lw6
            have G8 := frozen_below (fun o => (setCell_frozen w6 ⟨bo, 1, none⟩ ⟨bo, o, none⟩ (.int .i64 3)).trans (G6 o)) hb8 lb6
            have F8 := frozen_below (fun o => (setCell_frozen w6 ⟨bo, 1, none⟩ ⟨w.heap.size, o, none⟩ (.int .i64 3)).trans (F6 o)) hb8 lw6
            have x80 := X8 0 _ rfl
            have x81 : w8.cell? ⟨bo, 1, none⟩ = some (.int .i64 3) := X8 1 _ rfl
            have z80 := Z8 0 _ rfl
            have z81 := Z8 1 _ rfl
            have g80 := G8 0
            have f80 := F8 0
            have f81 := F8 1
            have C8 := (HC6.out.setNew (b := bo) (o := 1) (by omega) (.int .i64 3)).belowK hb8 (by simp; omega)
            have D8 := (D6.setNew (b := bo) (o := 1) hgbo (.int .i64 3)).belowK hb8 (by simp; omega)
            have hzs : (strN (List.replicate NN 0)).size = NN := by rw [strN_size]; simp
            have hok : secOk ⟨strN (List.replicate NN 0), 3⟩ NN = true := (secOk_eq rfl hzs rfl).trans (by simp)
            clear hz8 X8 G8 F8 hbz8 hbz9 hb8 X6 G6 Z6 F6
            go_wp2
            clear hst8
            generalize strN (List.replicate NN 0) = zz at *
            have Z9 := (Z8.set_other (g := bo) (o := 0) (.string zz) hne2).setL [Value.string zz, .int .i64 3] (by simp)
            have C9 := (((C8.setNew (b := bo) (o := 0) (by omega) (.string zz)).setNew (b := w.heap.size) (o := 0) (Nat.le_refl _) (.string zz))).setNew (b := w.heap.size) (o := 1) (Nat.le_refl _) (.int .i64 3)
            have D9 := ((D8.setNew (b := bo) (o := 0) hgbo (.string zz)).setNew (b := w.heap.size) (o := 0) hgw (.string zz)).setNew (b := w.heap.size) (o := 1) hgw (.int .i64 3)
            show bodyPost _ _ _ _ _ (setL (w8.setCell ⟨bo, 0, none⟩ (.string zz)) w.heap.size 0 [Value.string zz, .int .i64 3])
            change Row (setL (w8.setCell ⟨bo, 0, none⟩ (.string zz)) w.heap.size 0 [Value.string zz, .int .i64 3]) _ _ at Z9
            change Chg _ _ _ (setL (w8.setCell ⟨bo, 0, none⟩ (.string zz)) w.heap.size 0 [Value.string zz, .int .i64 3]) at C9
            change DrAt (setL (w8.setCell ⟨bo, 0, none⟩ (.string zz)) w.heap.size 0 [Value.string zz, .int .i64 3]) _ _ _ _ _ at D9
            generalize setL (w8.setCell ⟨bo, 0, none⟩ (.string zz)) w.heap.size 0 [Value.string zz, .int .i64 3] = W at *
            have s0 := Z9 0 _ rfl
            have s1 := Z9 1 _ rfl
            refine bodyPost_ret (v := .agg #[.string zz, .int .i64 3]) (by simp [results, Try.results124, go_sem, s0, s1]; try done) rfl ⟨⟨zz, 3⟩, rfl, hok, a6, by omega, by omega, D9, C9⟩
          · have hx1 : 1 ≤ x ∧ x ≤ 4 := by simp at hx; omega
            have d3 : (x == 3) = false := by simpa using hx3
            clear hx
            go_wp2
            have Z9 := (Z6.set_other (g := bo) (o := 1) (.int .i64 x) hne2).setL [Value.string d, .int .i64 x] (by simp)
            have C9 := (((HC6.out.setNew (b := bo) (o := 1) (by omega) (.int .i64 x)).setNew (b := w.heap.size) (o := 0) (Nat.le_refl _) (.string d))).setNew (b := w.heap.size) (o := 1) (Nat.le_refl _) (.int .i64 x)
            have D9 := ((D6.setNew (b := bo) (o := 1) hgbo (.int .i64 x)).setNew (b := w.heap.size) (o := 0) hgw (.string d)).setNew (b := w.heap.size) (o := 1) hgw (.int .i64 x)
            show bodyPost _ _ _ _ _ (setL (w6.setCell ⟨bo, 1, none⟩ (.int .i64 x)) w.heap.size 0 [Value.string d, .int .i64 x])
            change Row (setL (w6.setCell ⟨bo, 1, none⟩ (.int .i64 x)) w.heap.size 0 [Value.string d, .int .i64 x]) _ _ at Z9
            change Chg _ _ _ (setL (w6.setCell ⟨bo, 1, none⟩ (.int .i64 x)) w.heap.size 0 [Value.string d, .int .i64 x]) at C9
            change DrAt (setL (w6.setCell ⟨bo, 1, none⟩ (.int .i64 x)) w.heap.size 0 [Value.string d, .int .i64 x]) _ _ _ _ _ at D9
            generalize setL (w6.setCell ⟨bo, 1, none⟩ (.int .i64 x)) w.heap.size 0 [Value.string d, .int .i64 x] = W at *
            have s0 := Z9 0 _ rfl
            have s1 := Z9 1 _ rfl
            refine bodyPost_ret (v := .agg #[.string d, .int .i64 x]) (by simp [results, Try.results124, go_sem, s0, s1]; try done) rfl ⟨⟨d, x⟩, rfl, sec_parts ⟨hx1, hx3⟩ hdz, a6, by omega, by omega, D9, C9⟩
        · go_wp2_with (fail)
          refine (next_s g A n c a2 _ D2 hn (by omega)).mono ?_; rintro e w3 ⟨r3, hr3, rfl, D3', C3, S3⟩
          have hr3b : IntKind.u8.wrap (r3 : Int) = (r3 : Int) := by rw [IntKind.wrap_u8]; omega
          obtain ⟨x0, hx0⟩ : ∃ x, bl[0]? = some x := ⟨bl[0]'(by have := HL.out.1; omega), List.getElem?_eq_getElem (by have := HL.out.1; omega)⟩
          have HBw := HB2.out.block (C3.block gb z2 (by omega))
          obtain ⟨p0, q0⟩ := HBw 0 x0 hx0
          have HB3 := Lib.hid (HBw.set r3 hx0)
          have HC3 := Lib.hid ((HC2.out.trans C3).setNew (b := gb) (o := 0) (by omega) (.int .u8 (r3 : Int)))
          have HZ3 : Hid (Row (w3.setCell ⟨gb, 0, none⟩ (.int .u8 (r3 : Int))) w.heap.size [.string .empty, .int .i64 0] ∧ ∀ o, (w3.setCell ⟨gb, 0, none⟩ (.int .u8 (r3 : Int))).frozen? ⟨w.heap.size, o, none⟩ = false) := Lib.hid (And.intro ((HZ2.out.1.chgIn C3 (by omega) (by omega)).set_other (g := gb) (o := 0) (.int .u8 (r3 : Int)) (by omega)) (fun o => (setCell_frozen _ _ ⟨w.heap.size, o, none⟩ _).trans (frozen_chg HZ2.out.2 C3 (by omega) (by omega) o)))
          have D3 := D3'.setNew (b := gb) (o := 0) (by omega) (.int .u8 (r3 : Int))
          have HL3 : Hid ((bl.set 0 r3).length = NN ∧ ∀ x ∈ bl.set 0 r3, x < 256) := Lib.hid ⟨by rw [List.length_set]; exact HL.out.1, fun x hx => by
            rcases List.mem_or_eq_of_mem_set hx with hx | rfl
            · exact HL.out.2 x hx
            · exact hr3⟩
          clear HL
          have HL := HL3
          have ha3 : a2 + 1 ≤ a + 6 ∧ a ≤ a2 + 1 := by omega
          have z3 : gb < (w3.setCell ⟨gb, 0, none⟩ (.int .u8 (r3 : Int))).heap.size := by simp; omega
          clear S3
          clear HB2 HC2 HZ2 D2 z2 HBw hx0 D3' C3
          go_upto_region 9 with (fail)
          generalize bl.set 0 r3 = b3 at *
          generalize w3.setCell ⟨gb, 0, none⟩ (.int .u8 (r3 : Int)) = W3 at *
          generalize a2 + 1 = a3 at *
          clear p0 q0 HL3
          have hst := HB3.out.str (n := NN) (c := cb) HL.out.1
          have D4 := (D3.alloc (.cells #[.string (strN b3), .int .i64 0] 48)).alloc (.cells #[.int .i64 1, .int .i64 1, .int .i64 1, .int .i64 2, .int .i64 3, .int .i64 4] 2)
          have hg3 := D3.lt
          have z4 : (W3.alloc (.cells #[.string (strN b3), .int .i64 0] 48)).heap.size = W3.heap.size + 1 := by simp
          have zz3 : w.heap.size < W3.heap.size := by omega
          go_wp2_with (fail)
          refine (among_s g A n c a3 (W3.heap.size + 1) 6 [1, 1, 1, 2, 3, 4] _ D4 hn (by omega) (by simp) (by simp) (by omega) (by simp) ?_).mono ?_
          · intro j x hj
            match j, hj with
            | 0, hj => simp at hj; subst hj; simp
            | 1, hj => simp at hj; subst hj; simp
            | 2, hj => simp at hj; subst hj; simp
            | 3, hj => simp at hj; subst hj; simp
            | 4, hj => simp at hj; subst hj; simp
            | 5, hj => simp at hj; subst hj; simp
            | j + 6, hj => simp at hj
          rintro e w6 ⟨x, hx, rfl, a6, h61, h62, D6, C6, S6⟩
          have x4 : Row (W3.alloc (.cells #[.string (strN b3), .int .i64 0] 48)) W3.heap.size [.string (strN b3), .int .i64 0] := Row.alloc W3 _ _
          have g4 : ∀ o, (W3.alloc (.cells #[.string (strN b3), .int .i64 0] 48)).frozen? ⟨W3.heap.size, o, none⟩ = false := alloc_fr
          have ba : Below (W3.alloc (.cells #[.string (strN b3), .int .i64 0] 48)).heap.size (W3.alloc (.cells #[.string (strN b3), .int .i64 0] 48)) ((W3.alloc (.cells #[.string (strN b3), .int .i64 0] 48)).alloc (.cells #[.int .i64 1, .int .i64 1, .int .i64 1, .int .i64 2, .int .i64 3, .int .i64 4] 2)) := Below.alloc (Below.refl _ _) (Nat.le_refl _) _
          have X6 := (x4.below ba (by omega)).chgIn C6 (by simp; omega) (by omega)
          have G6 := frozen_chg (frozen_below g4 ba (by omega)) C6 (by simp; omega) (by omega)
          have Z6 := ((HZ3.out.1.below (Below.alloc (Below.refl W3.heap.size W3) (Nat.le_refl _) (.cells #[.string (strN b3), .int .i64 0] 48)) zz3).below ba (by omega)).chgIn C6 (by simp; omega) (by omega)
          have F6 := frozen_chg (frozen_below (frozen_below HZ3.out.2 (Below.alloc (Below.refl W3.heap.size W3) (Nat.le_refl _) (.cells #[.string (strN b3), .int .i64 0] 48)) zz3) ba (by omega)) C6 (by simp; omega) (by omega)
          have HC6 := Lib.hid (((HC3.out.alloc (.cells #[.string (strN b3), .int .i64 0] 48)).alloc (.cells #[.int .i64 1, .int .i64 1, .int .i64 1, .int .i64 2, .int .i64 3, .int .i64 4] 2)).trans C6)
          have z6 : W3.heap.size < w6.heap.size := by rw [S6]; simp; omega
          clear S6
          have lbo : w.heap.size < W3.heap.size := by omega
          have hgbo : g < W3.heap.size := by omega
          have hdz : (strN b3).size = NN := by rw [strN_size]; exact HL.out.1
          generalize strN b3 = d at *
          generalize W3.heap.size = bo at *
          clear D4 hst HB3 HC3 HZ3 x4 g4 ba z4 D3 C6
          have x60 := X6 0 _ rfl
          have x61 := X6 1 _ rfl
          have z60 := Z6 0 _ rfl
          have z61 := Z6 1 _ rfl
          have g60 := G6 0
          have g61 := G6 1
          have f60 := F6 0
          have f61 := F6 1
          have hne : bo ≠ w.heap.size := by omega
          have hne2 : w.heap.size ≠ bo := by omega
          by_cases hx3 : x = 3
          · subst hx3
            clear hx
            obtain ⟨w8, hm8, hbz8, hb8, hz8⟩ := buf_made (w6.setCell ⟨bo, 1, none⟩ (.int .i64 3)) NN (by omega)
            have hbz9 : Buf w8 w6.heap.size (List.replicate NN 0) := by rw [show w6.heap.size = (w6.setCell ⟨bo, 1, none⟩ (.int .i64 3)).heap.size by simp]; exact hbz8
            have hst8 := hbz9.str (n := NN) (c := NN) (by simp)
            have lb6 : bo < (w6.setCell ⟨bo, 1, none⟩ (.int .i64 3)).heap.size := by simp; omega
            have lw6 : w.heap.size < (w6.setCell ⟨bo, 1, none⟩ (.int .i64 3)).heap.size := by simp; omega
            have X8 := (X6.set (o := 1) (.int .i64 3) (by simp)).below hb8 lb6
            have Z8 := (Z6.set_other (g := bo) (o := 1) (.int .i64 3) hne2).below hb8 lw6
            have G8 := frozen_below (fun o => (setCell_frozen w6 ⟨bo, 1, none⟩ ⟨bo, o, none⟩ (.int .i64 3)).trans (G6 o)) hb8 lb6
            have F8 := frozen_below (fun o => (setCell_frozen w6 ⟨bo, 1, none⟩ ⟨w.heap.size, o, none⟩ (.int .i64 3)).trans (F6 o)) hb8 lw6
            have x80 := X8 0 _ rfl
            have x81 : w8.cell? ⟨bo, 1, none⟩ = some (.int .i64 3) := X8 1 _ rfl
            have z80 := Z8 0 _ rfl
            have z81 := Z8 1 _ rfl
            have g80 := G8 0
            have f80 := F8 0
            have f81 := F8 1
            have C8 := (HC6.out.setNew (b := bo) (o := 1) (by omega) (.int .i64 3)).belowK hb8 (by simp; omega)
            have D8 := (D6.setNew (b := bo) (o := 1) hgbo (.int .i64 3)).belowK hb8 (by simp; omega)
            have hzs : (strN (List.replicate NN 0)).size = NN := by rw [strN_size]; simp
            have hok : secOk ⟨strN (List.replicate NN 0), 3⟩ NN = true := (secOk_eq rfl hzs rfl).trans (by simp)
            clear hz8 X8 G8 F8 hbz8 hbz9 hb8 X6 G6 Z6 F6
            go_wp2
            clear hst8
            generalize strN (List.replicate NN 0) = zz at *
            have Z9 := (Z8.set_other (g := bo) (o := 0) (.string zz) hne2).setL [Value.string zz, .int .i64 3] (by simp)
            have C9 := (((C8.setNew (b := bo) (o := 0) (by omega) (.string zz)).setNew (b := w.heap.size) (o := 0) (Nat.le_refl _) (.string zz))).setNew (b := w.heap.size) (o := 1) (Nat.le_refl _) (.int .i64 3)
            have D9 := ((D8.setNew (b := bo) (o := 0) hgbo (.string zz)).setNew (b := w.heap.size) (o := 0) hgw (.string zz)).setNew (b := w.heap.size) (o := 1) hgw (.int .i64 3)
            show bodyPost _ _ _ _ _ (setL (w8.setCell ⟨bo, 0, none⟩ (.string zz)) w.heap.size 0 [Value.string zz, .int .i64 3])
            change Row (setL (w8.setCell ⟨bo, 0, none⟩ (.string zz)) w.heap.size 0 [Value.string zz, .int .i64 3]) _ _ at Z9
            change Chg _ _ _ (setL (w8.setCell ⟨bo, 0, none⟩ (.string zz)) w.heap.size 0 [Value.string zz, .int .i64 3]) at C9
            change DrAt (setL (w8.setCell ⟨bo, 0, none⟩ (.string zz)) w.heap.size 0 [Value.string zz, .int .i64 3]) _ _ _ _ _ at D9
            generalize setL (w8.setCell ⟨bo, 0, none⟩ (.string zz)) w.heap.size 0 [Value.string zz, .int .i64 3] = W at *
            have s0 := Z9 0 _ rfl
            have s1 := Z9 1 _ rfl
            refine bodyPost_ret (v := .agg #[.string zz, .int .i64 3]) (by simp [results, Try.results124, go_sem, s0, s1]; try done) rfl ⟨⟨zz, 3⟩, rfl, hok, a6, by omega, by omega, D9, C9⟩
          · have hx1 : 1 ≤ x ∧ x ≤ 4 := by simp at hx; omega
            have d3 : (x == 3) = false := by simpa using hx3
            clear hx
            go_wp2
            have Z9 := (Z6.set_other (g := bo) (o := 1) (.int .i64 x) hne2).setL [Value.string d, .int .i64 x] (by simp)
            have C9 := (((HC6.out.setNew (b := bo) (o := 1) (by omega) (.int .i64 x)).setNew (b := w.heap.size) (o := 0) (Nat.le_refl _) (.string d))).setNew (b := w.heap.size) (o := 1) (Nat.le_refl _) (.int .i64 x)
            have D9 := ((D6.setNew (b := bo) (o := 1) hgbo (.int .i64 x)).setNew (b := w.heap.size) (o := 0) hgw (.string d)).setNew (b := w.heap.size) (o := 1) hgw (.int .i64 x)
            show bodyPost _ _ _ _ _ (setL (w6.setCell ⟨bo, 1, none⟩ (.int .i64 x)) w.heap.size 0 [Value.string d, .int .i64 x])
            change Row (setL (w6.setCell ⟨bo, 1, none⟩ (.int .i64 x)) w.heap.size 0 [Value.string d, .int .i64 x]) _ _ at Z9
            change Chg _ _ _ (setL (w6.setCell ⟨bo, 1, none⟩ (.int .i64 x)) w.heap.size 0 [Value.string d, .int .i64 x]) at C9
            change DrAt (setL (w6.setCell ⟨bo, 1, none⟩ (.int .i64 x)) w.heap.size 0 [Value.string d, .int .i64 x]) _ _ _ _ _ at D9
            generalize setL (w6.setCell ⟨bo, 1, none⟩ (.int .i64 x)) w.heap.size 0 [Value.string d, .int .i64 x] = W at *
            have s0 := Z9 0 _ rfl
            have s1 := Z9 1 _ rfl
            refine bodyPost_ret (v := .agg #[.string d, .int .i64 x]) (by simp [results, Try.results124, go_sem, s0, s1]; try done) rfl ⟨⟨d, x⟩, rfl, sec_parts ⟨hx1, hx3⟩ hdz, a6, by omega, by omega, D9, C9⟩
  · have hNN : szN 2 = 32 := by rfl
    rw [hNN]
    obtain ⟨NN, hNv⟩ : ∃ NN : Nat, NN = 32 := ⟨_, rfl⟩
    rw [← hNv]
    have HNV := Lib.hid hNv
    have hN2 : NN ≤ 32 ∧ 8 ≤ NN := by omega
    clear hZ hNN hNv
    go_enter Try.func124, Try.ntmps124
    go_wp2_with (fail)
    refine (pick_s g A n c a 3 _ D0 hn (by omega) (by omega)).mono ?_; rintro e w1 ⟨r1, hr1, rfl, a1, h11, h12, D1, C1, S1⟩
    obtain ⟨bN, hbN, hb⟩ : ∃ bN : Nat, bN < 256 ∧ IntKind.u8.wrap (65 + (r1 : Int)) = (bN : Int) := ⟨65 + r1, by omega, by rw [IntKind.wrap_u8]; omega⟩
    have hr65 : (r1 : Int) ≤ 2 := by omega
    have Z1 := Z0.chgIn C1 (by simp) (by omega)
    have f1 := frozen_chg f0 C1 (by simp) (by omega)
    have C01 := Lib.hid (C0.trans C1)
    have S1' : w.heap.size + 1 ≤ w1.heap.size := by rw [S1]; simp
    have HO0 : Hid (BytesL w1.heap.size (w1.alloc (.cells #[] 5)) (.slice (some ⟨w1.heap.size, 0, none⟩) 0 0) []) := Lib.hid (OwnL.of_empty w1 (Nat.le_refl _))
    have B10 : Below w1.heap.size w1 (w1.alloc (.cells #[] 5)) := Below.alloc (Below.refl _ _) (Nat.le_refl _) _
    have HZ1 := Lib.hid (And.intro Z1 f1)
    clear D0 Z0 f0 C0 C1 S1 Z1 f1
    go_wp2_with (fail)
    go_loopw [7, 6] (fun i out wx => ∃ (k2 : Nat) (bl : List Nat), k2 ≤ NN ∧ i = .int .i64 k2 ∧ bl.length = NN - k2 ∧ Hid (∀ x ∈ bl, x < 256) ∧ Below w1.heap.size w1 wx ∧ Hid (BytesL w1.heap.size wx out bl)) (fun i _ _ => (intOf i).toNat)
    case atStart => exact ⟨NN, [], Nat.le_refl _, by rw [HNV.out]; rfl, by simp, Lib.hid (by simp), B10, HO0⟩
    case round =>
      clear HO0 B10
      obtain ⟨k2, bl, hk2, rfl, hbl, HBT, hb1, HO⟩ := hrel
      have zr := hb1.size
      by_cases hlt : 0 < k2
      · have hl1 : bl.length + 1 ≤ 16777216 := by omega
        have hbase : w1.heap.size ≤ (wr.alloc (.cells #[.int .u8 (bN : Int)] 5)).heap.size := by simp; omega
        obtain ⟨A8, c8, rfl, _⟩ := OwnL.shape HO.out
        have HBL := Lib.hid hbl
        clear hbl
        go_wp2_with (at_builtin; refine wpList_app1 ucell 1 ucell_len _ rfl _ _ _ rfl w1.heap.size 5 i1 (.int .u8 0) 1 Try.underlying70 ji jz0 jz1 jz2 rfl (by decide) _ bl rfl (HO.out.alloc _) _ 1 bN rfl ?_ (by simp [ucell, Value.oneCell']) hl1 (by decide) hbase ?_; (· intro j u hu; cases j with | zero => (simp [ucell] at hu; subst hu; simp) | succ j => simp [ucell] at hu); intro v8 w8 how8 hg8'; have hb8 : Below w1.heap.size w1 w8 := own_grown_below (HO.out.alloc (.cells #[.int .u8 (bN : Int)] 5)) (Below.alloc hb1 zr _) hg8' (Nat.le_refl _) hbase; have HO8 := Lib.hid how8; clear how8 hg8')
        go_roundw
        case rel => exact ⟨k2 - 1, bl ++ [bN], by omega, by go_num, by simp [HBL.out]; omega, Lib.hid (fun x hx => by
          rcases List.mem_append.1 hx with hx | hx
          · exact HBT.out x hx
          · obtain rfl : x = bN := by simpa using hx
            exact hbN), hb8, HO8⟩
        case measure => simp [intOf]; omega
      · obtain rfl : k2 = 0 := by omega
        have hbz : bl.length = NN := by omega
        obtain ⟨A8, cb, rfl, hA8⟩ := OwnL.shape HO.out
        obtain ⟨gb, rfl, hgb1, hgb2⟩ := hA8.resolve_left (by rintro rfl; simp at hbz; omega)
        have HB := Lib.hid (BytesL.buf HO.out rfl)
        have D1w := D1.belowK hb1 (by omega)
        have HC1 := Lib.hid (C01.out.belowK hb1 (by omega))
        have HZw := Lib.hid (And.intro (HZ1.out.1.below hb1 (by omega)) (frozen_belowK HZ1.out.2 hb1 (by omega)))
        try rw [hbz]
        have HL := Lib.hid (And.intro hbz HBT.out)
        clear HO D1 C01 HZ1 hA8 hbl hbz HBT
        go_wp2_with (fail)
        refine (one_s g A n c a1 4 _ D1w hn (by omega) (by omega)).mono ?_; rintro e w2 ⟨b2, rfl, a2, h21, h22, D2, C2, S2⟩
        have HB2 := Lib.hid (HB.out.block (C2.block gb hgb2 (by omega)))
        have HC2 := Lib.hid (HC1.out.trans C2)
        have HZ2 := Lib.hid (And.intro (HZw.out.1.chgIn C2 (by omega) (by omega)) (frozen_chg HZw.out.2 C2 (by omega) (by omega)))
        have z2 : gb < w2.heap.size := by omega
        clear D1w HB HC1 HZw C2 S2
        cases b2
        · obtain ⟨W3, rfl⟩ : ∃ W3, W3 = w2 := ⟨w2, rfl⟩
          obtain ⟨a3, rfl⟩ : ∃ a3, a3 = a2 := ⟨a2, rfl⟩
          obtain ⟨b3, hb3⟩ : ∃ b3, b3 = bl := ⟨bl, rfl⟩
          have HB3 := HB2
          rw [← hb3] at HB3 HL
          have HC3 := HC2
          have HZ3 := HZ2
          have D3 := D2
          have z3 : gb < W3.heap.size := z2
          have ha3 : a3 ≤ a + 6 ∧ a ≤ a3 := by omega
          clear HB2 HC2 HZ2 D2 z2 hb3
          have hst := HB3.out.str (n := NN) (c := cb) HL.out.1
          have D4 := (D3.alloc (.cells #[.string (strN b3), .int .i64 0] 48)).alloc (.cells #[.int .i64 1, .int .i64 1, .int .i64 1, .int .i64 2, .int .i64 3, .int .i64 4] 2)
          have hg3 := D3.lt
          have z4 : (W3.alloc (.cells #[.string (strN b3), .int .i64 0] 48)).heap.size = W3.heap.size + 1 := by simp
          have zz3 : w.heap.size < W3.heap.size := by omega
          go_wp2_with (fail)
          refine (among_s g A n c a3 (W3.heap.size + 1) 6 [1, 1, 1, 2, 3, 4] _ D4 hn (by omega) (by simp) (by simp) (by omega) (by simp) ?_).mono ?_
          · intro j x hj
            match j, hj with
            | 0, hj => simp at hj; subst hj; simp
            | 1, hj => simp at hj; subst hj; simp
            | 2, hj => simp at hj; subst hj; simp
            | 3, hj => simp at hj; subst hj; simp
            | 4, hj => simp at hj; subst hj; simp
            | 5, hj => simp at hj; subst hj; simp
            | j + 6, hj => simp at hj
          rintro e w6 ⟨x, hx, rfl, a6, h61, h62, D6, C6, S6⟩
          have x4 : Row (W3.alloc (.cells #[.string (strN b3), .int .i64 0] 48)) W3.heap.size [.string (strN b3), .int .i64 0] := Row.alloc W3 _ _
          have g4 : ∀ o, (W3.alloc (.cells #[.string (strN b3), .int .i64 0] 48)).frozen? ⟨W3.heap.size, o, none⟩ = false := alloc_fr
          have ba : Below (W3.alloc (.cells #[.string (strN b3), .int .i64 0] 48)).heap.size (W3.alloc (.cells #[.string (strN b3), .int .i64 0] 48)) ((W3.alloc (.cells #[.string (strN b3), .int .i64 0] 48)).alloc (.cells #[.int .i64 1, .int .i64 1, .int .i64 1, .int .i64 2, .int .i64 3, .int .i64 4] 2)) := Below.alloc (Below.refl _ _) (Nat.le_refl _) _
          have X6 := (x4.below ba (by omega)).chgIn C6 (by simp; omega) (by omega)
          have G6 := frozen_chg (frozen_below g4 ba (by omega)) C6 (by simp; omega) (by omega)
          have Z6 := ((HZ3.out.1.below (Below.alloc (Below.refl W3.heap.size W3) (Nat.le_refl _) (.cells #[.string (strN b3), .int .i64 0] 48)) zz3).below ba (by omega)).chgIn C6 (by simp; omega) (by omega)
          have F6 := frozen_chg (frozen_below (frozen_below HZ3.out.2 (Below.alloc (Below.refl W3.heap.size W3) (Nat.le_refl _) (.cells #[.string (strN b3), .int .i64 0] 48)) zz3) ba (by omega)) C6 (by simp; omega) (by omega)
          have HC6 := Lib.hid (((HC3.out.alloc (.cells #[.string (strN b3), .int .i64 0] 48)).alloc (.cells #[.int .i64 1, .int .i64 1, .int .i64 1, .int .i64 2, .int .i64 3, .int .i64 4] 2)).trans C6)
          have z6 : W3.heap.size < w6.heap.size := by rw [S6]; simp; omega
          clear S6
          have lbo : w.heap.size < W3.heap.size := by omega
          have hgbo : g < W3.heap.size := by omega
          have hdz : (strN b3).size = NN := by rw [strN_size]; exact HL.out.1
          generalize strN b3 = d at *
          generalize W3.heap.size = bo at *
          clear D4 hst HB3 HC3 HZ3 x4 g4 ba z4 D3 C6
          have x60 := X6 0 _ rfl
          have x61 := X6 1 _ rfl
          have z60 := Z6 0 _ rfl
          have z61 := Z6 1 _ rfl
          have g60 := G6 0
          have g61 := G6 1
          have f60 := F6 0
          have f61 := F6 1
          have hne : bo ≠ w.heap.size := by omega
          have hne2 : w.heap.size ≠ bo := by omega
          by_cases hx3 : x = 3
          · subst hx3
            clear hx
            obtain ⟨w8, hm8, hbz8, hb8, hz8⟩ := buf_made (w6.setCell ⟨bo, 1, none⟩ (.int .i64 3)) NN (by omega)
            have hbz9 : Buf w8 w6.heap.size (List.replicate NN 0) := by rw [show w6.heap.size = (w6.setCell ⟨bo, 1, none⟩ (.int .i64 3)).heap.size by simp]; exact hbz8
            have hst8 := hbz9.str (n := NN) (c := NN) (by simp)
            have lb6 : bo < (w6.setCell ⟨bo, 1, none⟩ (.int .i64 3)).heap.size := by simp; omega
            have lw6 : w.heap.size < (w6.setCell ⟨bo, 1, none⟩ (.int .i64 3)).heap.size := by simp; omega
            have X8 := (X6.set (o := 1) (.int .i64 3) (by simp)).below hb8 lb6
            have Z8 := (Z6.set_other (g := bo) (o := 1) (.int .i64 3) hne2).below hb8 lw6
            have G8 := frozen_below (fun o => (setCell_frozen w6 ⟨bo, 1, none⟩ ⟨bo, o, none⟩ (.int .i64 3)).trans (G6 o)) hb8 lb6
            have F8 := frozen_below (fun o => (setCell_frozen w6 ⟨bo, 1, none⟩ ⟨w.heap.size, o, none⟩ (.int .i64 3)).trans (F6 o)) hb8 lw6
            have x80 := X8 0 _ rfl
            have x81 : w8.cell? ⟨bo, 1, none⟩ = some (.int .i64 3) := X8 1 _ rfl
            have z80 := Z8 0 _ rfl
            have z81 := Z8 1 _ rfl
            have g80 := G8 0
            have f80 := F8 0
            have f81 := F8 1
            have C8 := (HC6.out.setNew (b := bo) (o := 1) (by omega) (.int .i64 3)).belowK hb8 (by simp; omega)
            have D8 := (D6.setNew (b := bo) (o := 1) hgbo (.int .i64 3)).belowK hb8 (by simp; omega)
            have hzs : (strN (List.replicate NN 0)).size = NN := by rw [strN_size]; simp
            have hok : secOk ⟨strN (List.replicate NN 0), 3⟩ NN = true := (secOk_eq rfl hzs rfl).trans (by simp)
            clear hz8 X8 G8 F8 hbz8 hbz9 hb8 X6 G6 Z6 F6
            go_wp2
            clear hst8
            generalize strN (List.replicate NN 0) = zz at *
            have Z9 := (Z8.set_other (g := bo) (o := 0) (.string zz) hne2).setL [Value.string zz, .int .i64 3] (by simp)
            have C9 := (((C8.setNew (b := bo) (o := 0) (by omega) (.string zz)).setNew (b := w.heap.size) (o := 0) (Nat.le_refl _) (.string zz))).setNew (b := w.heap.size) (o := 1) (Nat.le_refl _) (.int .i64 3)
            have D9 := ((D8.setNew (b := bo) (o := 0) hgbo (.string zz)).setNew (b := w.heap.size) (o := 0) hgw (.string zz)).setNew (b := w.heap.size) (o := 1) hgw (.int .i64 3)
            show bodyPost _ _ _ _ _ (setL (w8.setCell ⟨bo, 0, none⟩ (.string zz)) w.heap.size 0 [Value.string zz, .int .i64 3])
            change Row (setL (w8.setCell ⟨bo, 0, none⟩ (.string zz)) w.heap.size 0 [Value.string zz, .int .i64 3]) _ _ at Z9
            change Chg _ _ _ (setL (w8.setCell ⟨bo, 0, none⟩ (.string zz)) w.heap.size 0 [Value.string zz, .int .i64 3]) at C9
            change DrAt (setL (w8.setCell ⟨bo, 0, none⟩ (.string zz)) w.heap.size 0 [Value.string zz, .int .i64 3]) _ _ _ _ _ at D9
            generalize setL (w8.setCell ⟨bo, 0, none⟩ (.string zz)) w.heap.size 0 [Value.string zz, .int .i64 3] = W at *
            have s0 := Z9 0 _ rfl
            have s1 := Z9 1 _ rfl
            refine bodyPost_ret (v := .agg #[.string zz, .int .i64 3]) (by simp [results, Try.results124, go_sem, s0, s1]; try done) rfl ⟨⟨zz, 3⟩, rfl, hok, a6, by omega, by omega, D9, C9⟩
          · have hx1 : 1 ≤ x ∧ x ≤ 4 := by simp at hx; omega
            have d3 : (x == 3) = false := by simpa using hx3
            clear hx
            go_wp2
            have Z9 := (Z6.set_other (g := bo) (o := 1) (.int .i64 x) hne2).setL [Value.string d, .int .i64 x] (by simp)
            have C9 := (((HC6.out.setNew (b := bo) (o := 1) (by omega) (.int .i64 x)).setNew (b := w.heap.size) (o := 0) (Nat.le_refl _) (.string d))).setNew (b := w.heap.size) (o := 1) (Nat.le_refl _) (.int .i64 x)
            have D9 := ((D6.setNew (b := bo) (o := 1) hgbo (.int .i64 x)).setNew (b := w.heap.size) (o := 0) hgw (.string d)).setNew (b := w.heap.size) (o := 1) hgw (.int .i64 x)
            show bodyPost _ _ _ _ _ (setL (w6.setCell ⟨bo, 1, none⟩ (.int .i64 x)) w.heap.size 0 [Value.string d, .int .i64 x])
            change Row (setL (w6.setCell ⟨bo, 1, none⟩ (.int .i64 x)) w.heap.size 0 [Value.string d, .int .i64 x]) _ _ at Z9
            change Chg _ _ _ (setL (w6.setCell ⟨bo, 1, none⟩ (.int .i64 x)) w.heap.size 0 [Value.string d, .int .i64 x]) at C9
            change DrAt (setL (w6.setCell ⟨bo, 1, none⟩ (.int .i64 x)) w.heap.size 0 [Value.string d, .int .i64 x]) _ _ _ _ _ at D9
            generalize setL (w6.setCell ⟨bo, 1, none⟩ (.int .i64 x)) w.heap.size 0 [Value.string d, .int .i64 x] = W at *
            have s0 := Z9 0 _ rfl
            have s1 := Z9 1 _ rfl
            refine bodyPost_ret (v := .agg #[.string d, .int .i64 x]) (by simp [results, Try.results124, go_sem, s0, s1]; try done) rfl ⟨⟨d, x⟩, rfl, sec_parts ⟨hx1, hx3⟩ hdz, a6, by omega, by omega, D9, C9⟩
        · go_wp2_with (fail)
          refine (next_s g A n c a2 _ D2 hn (by omega)).mono ?_; rintro e w3 ⟨r3, hr3, rfl, D3', C3, S3⟩
          have hr3b : IntKind.u8.wrap (r3 : Int) = (r3 : Int) := by rw [IntKind.wrap_u8]; omega
          obtain ⟨x0, hx0⟩ : ∃ x, bl[0]? = some x := ⟨bl[0]'(by have := HL.out.1; omega), List.getElem?_eq_getElem (by have := HL.out.1; omega)⟩
          have HBw := HB2.out.block (C3.block gb z2 (by omega))
          obtain ⟨p0, q0⟩ := HBw 0 x0 hx0
          have HB3 := Lib.hid (HBw.set r3 hx0)
          have HC3 := Lib.hid ((HC2.out.trans C3).setNew (b := gb) (o := 0) (by omega) (.int .u8 (r3 : Int)))
          have HZ3 : Hid (Row (w3.setCell ⟨gb, 0, none⟩ (.int .u8 (r3 : Int))) w.heap.size [.string .empty, .int .i64 0] ∧ ∀ o, (w3.setCell ⟨gb, 0, none⟩ (.int .u8 (r3 : Int))).frozen? ⟨w.heap.size, o, none⟩ = false) := Lib.hid (And.intro ((HZ2.out.1.chgIn C3 (by omega) (by omega)).set_other (g := gb) (o := 0) (.int .u8 (r3 : Int)) (by omega)) (fun o => (setCell_frozen _ _ ⟨w.heap.size, o, none⟩ _).trans (frozen_chg HZ2.out.2 C3 (by omega) (by omega) o)))
          have D3 := D3'.setNew (b := gb) (o := 0) (by omega) (.int .u8 (r3 : Int))
          have HL3 : Hid ((bl.set 0 r3).length = NN ∧ ∀ x ∈ bl.set 0 r3, x < 256) := Lib.hid ⟨by rw [List.length_set]; exact HL.out.1, fun x hx => by
            rcases List.mem_or_eq_of_mem_set hx with hx | rfl
            · exact HL.out.2 x hx
            · exact hr3⟩
          clear HL
          have HL := HL3
          have ha3 : a2 + 1 ≤ a + 6 ∧ a ≤ a2 + 1 := by omega
          have z3 : gb < (w3.setCell ⟨gb, 0, none⟩ (.int .u8 (r3 : Int))).heap.size := by simp; omega
          clear S3
          clear HB2 HC2 HZ2 D2 z2 HBw hx0 D3' C3
          go_upto_region 9 with (fail)
          generalize bl.set 0 r3 = b3 at *
          generalize w3.setCell ⟨gb, 0, none⟩ (.int .u8 (r3 : Int)) = W3 at *
          generalize a2 + 1 = a3 at *
          clear p0 q0 HL3
          have hst := HB3.out.str (n := NN) (c := cb) HL.out.1
          have D4 := (D3.alloc (.cells #[.string (strN b3), .int .i64 0] 48)).alloc (.cells #[.int .i64 1, .int .i64 1, .int .i64 1, .int .i64 2, .int .i64 3, .int .i64 4] 2)
          have hg3 := D3.lt
          have z4 : (W3.alloc (.cells #[.string (strN b3), .int .i64 0] 48)).heap.size = W3.heap.size + 1 := by simp
          have zz3 : w.heap.size < W3.heap.size := by omega
          go_wp2_with (fail)
          refine (among_s g A n c a3 (W3.heap.size + 1) 6 [1, 1, 1, 2, 3, 4] _ D4 hn (by omega) (by simp) (by simp) (by omega) (by simp) ?_).mono ?_
          · intro j x hj
            match j, hj with
            | 0, hj => simp at hj; subst hj; simp
            | 1, hj => simp at hj; subst hj; simp
            | 2, hj => simp at hj; subst hj; simp
            | 3, hj => simp at hj; subst hj; simp
            | 4, hj => simp at hj; subst hj; simp
            | 5, hj => simp at hj; subst hj; simp
            | j + 6, hj => simp at hj
          rintro e w6 ⟨x, hx, rfl, a6, h61, h62, D6, C6, S6⟩
          have x4 : Row (W3.alloc (.cells #[.string (strN b3), .int .i64 0] 48)) W3.heap.size [.string (strN b3), .int .i64 0] := Row.alloc W3 _ _
          have g4 : ∀ o, (W3.alloc (.cells #[.string (strN b3), .int .i64 0] 48)).frozen? ⟨W3.heap.size, o, none⟩ = false := alloc_fr
          have ba : Below (W3.alloc (.cells #[.string (strN b3), .int .i64 0] 48)).heap.size (W3.alloc (.cells #[.string (strN b3), .int .i64 0] 48)) ((W3.alloc (.cells #[.string (strN b3), .int .i64 0] 48)).alloc (.cells #[.int .i64 1, .int .i64 1, .int .i64 1, .int .i64 2, .int .i64 3, .int .i64 4] 2)) := Below.alloc (Below.refl _ _) (Nat.le_refl _) _
          have X6 := (x4.below ba (by omega)).chgIn C6 (by simp; omega) (by omega)
          have G6 := frozen_chg (frozen_below g4 ba (by omega)) C6 (by simp; omega) (by omega)
          have Z6 := ((HZ3.out.1.below (Below.alloc (Below.refl W3.heap.size W3) (Nat.le_refl _) (.cells #[.string (strN b3), .int .i64 0] 48)) zz3).below ba (by omega)).chgIn C6 (by simp; omega) (by omega)
          have F6 := frozen_chg (frozen_below (frozen_below HZ3.out.2 (Below.alloc (Below.refl W3.heap.size W3) (Nat.le_refl _) (.cells #[.string (strN b3), .int .i64 0] 48)) zz3) ba (by omega)) C6 (by simp; omega) (by omega)
          have HC6 := Lib.hid (((HC3.out.alloc (.cells #[.string (strN b3), .int .i64 0] 48)).alloc (.cells #[.int .i64 1, .int .i64 1, .int .i64 1, .int .i64 2, .int .i64 3, .int .i64 4] 2)).trans C6)
          have z6 : W3.heap.size < w6.heap.size := by rw [S6]; simp; omega
          clear S6
          have lbo : w.heap.size < W3.heap.size := by omega
          have hgbo : g < W3.heap.size := by omega
          have hdz : (strN b3).size = NN := by rw [strN_size]; exact HL.out.1
          generalize strN b3 = d at *
          generalize W3.heap.size = bo at *
          clear D4 hst HB3 HC3 HZ3 x4 g4 ba z4 D3 C6
          have x60 := X6 0 _ rfl
          have x61 := X6 1 _ rfl
          have z60 := Z6 0 _ rfl
          have z61 := Z6 1 _ rfl
          have g60 := G6 0
          have g61 := G6 1
          have f60 := F6 0
          have f61 := F6 1
          have hne : bo ≠ w.heap.size := by omega
          have hne2 : w.heap.size ≠ bo := by omega
          by_cases hx3 : x = 3
          · subst hx3
            clear hx
            obtain ⟨w8, hm8, hbz8, hb8, hz8⟩ := buf_made (w6.setCell ⟨bo, 1, none⟩ (.int .i64 3)) NN (by omega)
            have hbz9 : Buf w8 w6.heap.size (List.replicate NN 0) := by rw [show w6.heap.size = (w6.setCell ⟨bo, 1, none⟩ (.int .i64 3)).heap.size by simp]; exact hbz8
            have hst8 := hbz9.str (n := NN) (c := NN) (by simp)
            have lb6 : bo < (w6.setCell ⟨bo, 1, none⟩ (.int .i64 3)).heap.size := by simp; omega
            have lw6 : w.heap.size < (w6.setCell ⟨bo, 1, none⟩ (.int .i64 3)).heap.size := by simp; omega
            have X8 := (X6.set (o := 1) (.int .i64 3) (by simp)).below hb8 lb6
            have Z8 := (Z6.set_other (g := bo) (o := 1) (.int .i64 3) hne2).below hb8 lw6
            have G8 := frozen_below (fun o => (setCell_frozen w6 ⟨bo, 1, none⟩ ⟨bo, o, none⟩ (.int .i64 3)).trans (G6 o)) hb8 lb6
            have F8 := frozen_below (fun o => (setCell_frozen w6 ⟨bo, 1, none⟩ ⟨w.heap.size, o, none⟩ (.int .i64 3)).trans (F6 o)) hb8 lw6
            have x80 := X8 0 _ rfl
            have x81 : w8.cell? ⟨bo, 1, none⟩ = some (.int .i64 3) := X8 1 _ rfl
            have z80 := Z8 0 _ rfl
            have z81 := Z8 1 _ rfl
            have g80 := G8 0
            have f80 := F8 0
            have f81 := F8 1
            have C8 := (HC6.out.setNew (b := bo) (o := 1) (by omega) (.int .i64 3)).belowK hb8 (by simp; omega)
            have D8 := (D6.setNew (b := bo) (o := 1) hgbo (.int .i64 3)).belowK hb8 (by simp; omega)
            have hzs : (strN (List.replicate NN 0)).size = NN := by rw [strN_size]; simp
            have hok : secOk ⟨strN (List.replicate NN 0), 3⟩ NN = true := (secOk_eq rfl hzs rfl).trans (by simp)
            clear hz8 X8 G8 F8 hbz8 hbz9 hb8 X6 G6 Z6 F6
            go_wp2
            clear hst8
            generalize strN (List.replicate NN 0) = zz at *
            have Z9 := (Z8.set_other (g := bo) (o := 0) (.string zz) hne2).setL [Value.string zz, .int .i64 3] (by simp)
            have C9 := (((C8.setNew (b := bo) (o := 0) (by omega) (.string zz)).setNew (b := w.heap.size) (o := 0) (Nat.le_refl _) (.string zz))).setNew (b := w.heap.size) (o := 1) (Nat.le_refl _) (.int .i64 3)
            have D9 := ((D8.setNew (b := bo) (o := 0) hgbo (.string zz)).setNew (b := w.heap.size) (o := 0) hgw (.string zz)).setNew (b := w.heap.size) (o := 1) hgw (.int .i64 3)
            show bodyPost _ _ _ _ _ (setL (w8.setCell ⟨bo, 0, none⟩ (.string zz)) w.heap.size 0 [Value.string zz, .int .i64 3])
            change Row (setL (w8.setCell ⟨bo, 0, none⟩ (.string zz)) w.heap.size 0 [Value.string zz, .int .i64 3]) _ _ at Z9
            change Chg _ _ _ (setL (w8.setCell ⟨bo, 0, none⟩ (.string zz)) w.heap.size 0 [Value.string zz, .int .i64 3]) at C9
            change DrAt (setL (w8.setCell ⟨bo, 0, none⟩ (.string zz)) w.heap.size 0 [Value.string zz, .int .i64 3]) _ _ _ _ _ at D9
            generalize setL (w8.setCell ⟨bo, 0, none⟩ (.string zz)) w.heap.size 0 [Value.string zz, .int .i64 3] = W at *
            have s0 := Z9 0 _ rfl
            have s1 := Z9 1 _ rfl
            refine bodyPost_ret (v := .agg #[.string zz, .int .i64 3]) (by simp [results, Try.results124, go_sem, s0, s1]; try done) rfl ⟨⟨zz, 3⟩, rfl, hok, a6, by omega, by omega, D9, C9⟩
          · have hx1 : 1 ≤ x ∧ x ≤ 4 := by simp at hx; omega
            have d3 : (x == 3) = false := by simpa using hx3
            clear hx
            go_wp2
            have Z9 := (Z6.set_other (g := bo) (o := 1) (.int .i64 x) hne2).setL [Value.string d, .int .i64 x] (by simp)
            have C9 := (((HC6.out.setNew (b := bo) (o := 1) (by omega) (.int .i64 x)).setNew (b := w.heap.size) (o := 0) (Nat.le_refl _) (.string d))).setNew (b := w.heap.size) (o := 1) (Nat.le_refl _) (.int .i64 x)
            have D9 := ((D6.setNew (b := bo) (o := 1) hgbo (.int .i64 x)).setNew (b := w.heap.size) (o := 0) hgw (.string d)).setNew (b := w.heap.size) (o := 1) hgw (.int .i64 x)
            show bodyPost _ _ _ _ _ (setL (w6.setCell ⟨bo, 1, none⟩ (.int .i64 x)) w.heap.size 0 [Value.string d, .int .i64 x])
            change Row (setL (w6.setCell ⟨bo, 1, none⟩ (.int .i64 x)) w.heap.size 0 [Value.string d, .int .i64 x]) _ _ at Z9
            change Chg _ _ _ (setL (w6.setCell ⟨bo, 1, none⟩ (.int .i64 x)) w.heap.size 0 [Value.string d, .int .i64 x]) at C9
            change DrAt (setL (w6.setCell ⟨bo, 1, none⟩ (.int .i64 x)) w.heap.size 0 [Value.string d, .int .i64 x]) _ _ _ _ _ at D9
            generalize setL (w6.setCell ⟨bo, 1, none⟩ (.int .i64 x)) w.heap.size 0 [Value.string d, .int .i64 x] = W at *
            have s0 := Z9 0 _ rfl
            have s1 := Z9 1 _ rfl
            refine bodyPost_ret (v := .agg #[.string d, .int .i64 x]) (by simp [results, Try.results124, go_sem, s0, s1]; try done) rfl ⟨⟨d, x⟩, rfl, sec_parts ⟨hx1, hx3⟩ hdz, a6, by omega, by omega, D9, C9⟩
end Go.Proofs.Ytignjjkldmninaa
namespace Go.Proofs.Ytignjjkldmninaa
open Go.RowKit
/-- the source in block g, a box in block b with the cells us, since world w -/
structure DwB (w : World) (g : Nat) (A : Option Addr) (n c b : Nat) (us : List Value) (a : Nat) (W : World) : Prop where
  dr : DrAt W g A n c a
  ch : Chg g (g + 1) w W
  row : Row W b us
  fr : ∀ o, W.frozen? ⟨b, o, none⟩ = false
  bb : w.heap.size ≤ b ∧ b < W.heap.size
  gw : g < w.heap.size
section
variable {w W W' : World} {g n c b a a' m : Nat} {A : Option Addr} {us : List Value}
theorem DwB.of (h : DwB w g A n c b us a W) (hd : DrAt W' g A n c a') (hc : Chg g (g + 1) W W') : DwB w g A n c b us a' W' :=
  ⟨hd, h.ch.trans hc, h.row.chgIn hc h.bb.2 (by have := h.gw; have := h.bb.1; omega), frozen_chg h.fr hc h.bb.2 (by have := h.gw; have := h.bb.1; omega), ⟨h.bb.1, Nat.lt_of_lt_of_le h.bb.2 hc.size⟩, h.gw⟩
theorem DwB.pick (h : DwB w g A n c b us a W) (hp : DrPost g A n c a m W W') : ∃ a', a ≤ a' ∧ a' ≤ a + m ∧ DwB w g A n c b us a' W' ∧ Chg g (g + 1) W W' := by
  obtain ⟨a', h1, h2, h3, h4, _⟩ := hp
  exact ⟨a', h1, h2, h.of h3 h4, h4⟩
theorem DwB.new (h : DwB w g A n c b us a W) (hp : DrNew g A n c a m W W') : ∃ a', a ≤ a' ∧ a' ≤ a + m ∧ DwB w g A n c b us a' W' ∧ Chg g (g + 1) W W' := by
  obtain ⟨a', h1, h2, h3, h4⟩ := hp
  exact ⟨a', h1, h2, h.of h3 h4, h4⟩
theorem DwB.set (h : DwB w g A n c b us a W) {o : Nat} (u : Value) (ho : o < us.length) : DwB w g A n c b (us.set o u) a (W.setCell ⟨b, o, none⟩ u) :=
  ⟨h.dr.setNew (by have := h.gw; have := h.bb.1; omega) u, h.ch.setNew h.bb.1 u, h.row.set u ho, fun o' => (setCell_frozen _ _ _ _).trans (h.fr o'), ⟨h.bb.1, by simp; exact h.bb.2⟩, h.gw⟩
theorem DwB.setOther (h : DwB w g A n c b us a W) {b' o : Nat} (u : Value) (hb : w.heap.size ≤ b') (hne : b ≠ b') : DwB w g A n c b us a (W.setCell ⟨b', o, none⟩ u) :=
  ⟨h.dr.setNew (by have := h.gw; omega) u, h.ch.setNew hb u, h.row.set_other u hne, fun o' => (setCell_frozen _ _ _ _).trans (h.fr o'), ⟨h.bb.1, by simp; exact h.bb.2⟩, h.gw⟩
theorem DwB.grown (h : DwB w g A n c b us a W) {row : Option Nat} (hg : W.grownBy W' row) (hr : ∀ k, row = some k → w.heap.size ≤ k ∧ k ≠ b) : DwB w g A n c b us a W' :=
  ⟨h.dr.grown hg (fun k hk => by have := (hr k hk).1; have := h.gw; omega), h.ch.grown hg (fun k hk => (hr k hk).1), h.row.grown hg h.bb.2 (fun e => (hr b e).2 rfl), frozen_grown h.fr hg h.bb.2 (fun e => (hr b e).2 rfl), ⟨h.bb.1, Nat.lt_of_lt_of_le h.bb.2 hg.size⟩, h.gw⟩
theorem DwB.below (h : DwB w g A n c b us a W) (hb : Below W.heap.size W W') : DwB w g A n c b us a W' := h.grown (grown_of_below hb none) (fun k hk => by cases hk)
theorem DwB.alloc (h : DwB w g A n c b us a W) (o : Obj) : DwB w g A n c b us a (W.alloc o) := h.below (Below.alloc (Below.refl _ _) (Nat.le_refl _) o)
theorem DwB.drew (h : DwB w g A n c b us a W) : DwB w g A n c b us a W.drew := h.below (Below.refl _ _).drew
theorem OwnL.chgIn {α : Type} {f : α → List Value} {z : Nat} {e : TypeId} {B B' E' : Nat} {w w' : World} {v : Value} {l : List α} (h : OwnL f z e B w v l) (hc : Chg B' E' w w') (hd : E' ≤ B) : OwnL f z e B w' v l :=
  OwnL.blk h (fun q hq => hc.block q (World.ownsRow.lt h q hq).2 (by have := (World.ownsRow.lt h q hq).1; omega))
theorem OwnL.grown {α : Type} {f : α → List Value} {z : Nat} {e : TypeId} {B : Nat} {w w' : World} {v : Value} {l : List α} {row : Option Nat} (h : OwnL f z e B w v l) (hg : w.grownBy w' row) (hr : ∀ k, row = some k → v.ownBlock ≠ some k) : OwnL f z e B w' v l :=
  OwnL.kept h hg (by cases e : v.ownBlock with
    | none => exact .inl rfl
    | some q => exact .inr (fun h' => hr q h'.symm e))
end
/-- append of one element at a step of a region that draws its order -/
theorem step_app1 {P : Program} {α : Type} (f : α → List Value) (z : Nat) (hf : ∀ a, (f a).length = z) (w : World) {ops : Array Oper} {o : Oper} {a : Act} {K : Act → World → Prop} {Q : Exit → Act → World → Prop} {E : Prop} (hgd : o.guard = none) (s x : Operand) (t : TypeId)
    (ho : o.op = .call { callee := .builtin .append, args := #[s, x], argTypes := #[t, t] })
    (B : Nat) (e : TypeId) (i : TypeInfo) (zv : Value) (bytes : Nat) (ht : P.underlying t = some (.slice e)) (hi : P.info? e = some i) (hz : i.zero = some zv)
    (hsize : i.size = z) (hby : i.bytes = bytes) (hzs : zv.cells.size = z) (hsz : 0 < z)
    (v : Value) (l : List α) (hs : a.eval s = v) (hown : OwnL f z e B w v l)
    (gx c : Nat) (el : α) (hx : a.eval x = .slice (some ⟨gx, 0, none⟩) 1 c) (hnews : ∀ j u, (f el)[j]? = some u → w.cell? ⟨gx, j, none⟩ = some u) (h1 : ∀ u ∈ f el, u.oneCell' = true)
    (hn : l.length + 1 ≤ 16777216) (hbytes : bytes ≤ 4096) (hbase : B ≤ w.heap.size)
    (h : ∀ g cap w', OwnL f z e B w' (.slice (some ⟨g, 0, none⟩) (l.length + 1) cap) (l ++ [el]) → w.grownBy w' v.ownBlock → (v.ownBlock = some g ∨ g = w.heap.size) → K (a.put o.dst (.slice (some ⟨g, 0, none⟩) (l.length + 1) cap)) w') :
    if Region.wanted o (yielded ops a.tmps) = true then Oper.wp P o a w K Q else E := by
  refine step_append_lies w hgd s x t ho B e i zv z bytes ht hi hz hsize hby hzs hsz v l.length (flat f l) hs hown ⟨gx, 0, none⟩ 1 c (f el) hx (by rw [hf]; omega) ?_ h1 (by omega) (by unfold maxLen; omega) ?_ hbase _ rfl ?_
  · intro j u hu
    have e2 : (⟨gx, 0, none⟩ : Addr).add j = ⟨gx, j, none⟩ := by unfold Addr.add; split <;> simp_all
    rw [e2]; exact hnews j u hu
  · have : (l.length + 1) * bytes ≤ 16777216 * 4096 := Nat.mul_le_mul hn hbytes
    omega
  · intro g cap w' h2 h3 h4 _
    refine h g cap w' ?_ h3 h4
    unfold OwnL
    rw [flat_app, List.length_append]
    simpa [flat] using h2
/-- a list of drawn discs: each one's sectors in a list of its own -/
structure OutL (B : Nat) (W : World) (v : Value) (pl : List (Dsc × Value)) : Prop where
  o : OwnL dpc 5 39 B W v pl
  s : ∀ p ∈ pl, SecOwn B W p.2 p.1.secs ∧ Dj v p.2
theorem OutL.chg {B B' E' : Nat} {W W' : World} {v : Value} {pl : List (Dsc × Value)} (h : OutL B W v pl) (hc : Chg B' E' W W') (hd : E' ≤ B) : OutL B W' v pl := ⟨OwnL.chgIn h.o hc hd, fun p hp => ⟨OwnL.chgIn (h.s p hp).1 hc hd, (h.s p hp).2⟩⟩
theorem OutL.snoc {B : Nat} {W W' : World} {v v' vs : Value} {pl : List (Dsc × Value)} {d : Dsc} (h : OutL B W v pl) (ho : OwnL dpc 5 39 B W' v' (pl ++ [(d, vs)])) (hg : W.grownBy W' v.ownBlock) (hb : v'.ownBlock = v.ownBlock ∨ v'.ownBlock = some W.heap.size) (hs : SecOwn B W vs d.secs) (hd : Dj v vs) : OutL B W' v' (pl ++ [(d, vs)]) := by
  refine ⟨ho, fun p hp => ?_⟩
  have key : ∀ u l, SecOwn B W u l → Dj v u → SecOwn B W' u l ∧ Dj v' u := fun u l h1 h2 => ⟨OwnL.kept h1 hg (dj_kept h2.symm), h2.new hb (fun b hb => (World.ownsRow.lt h1 b hb).2)⟩
  rcases List.mem_append.1 hp with hp | hp
  · exact key _ _ (h.s p hp).1 (h.s p hp).2
  · obtain rfl : p = (d, vs) := by simpa using hp
    exact key _ _ hs hd
theorem OutL.own {B : Nat} {W : World} {v : Value} {pl : List (Dsc × Value)} (h : OutL B W v pl) : DscOwn B W v (pl.map Prod.fst) := by
  obtain ⟨A, c, rfl, hA⟩ := OwnL.shape h.o
  refine ⟨A, c, by rw [List.length_map], ?_⟩
  rcases hA with hA | ⟨g, rfl, hg1, hg2⟩
  · exact .inl (by rw [hA]; rfl)
  · refine .inr ⟨g, rfl, hg1, hg2, fun k e he => ?_⟩
    rw [List.getElem?_map] at he
    obtain ⟨p, hp, rfl⟩ := Option.map_eq_some_iff.1 he
    refine ⟨p.2, (h.s p (List.mem_of_getElem? hp)).1, fun j u hu => ?_⟩
    exact OwnL.cell dpc_len h.o hp (by simpa [dpc, Dsc.ints] using hu)
theorem dumps_of {l : List Dsc} {z : Dsc} {n : Nat} (h1 : 1 ≤ l.length) (h5 : l.length ≤ 5) (hg : geoB z.cyl z.heads z.per z.size = true) (hn : ((n : Nat) : Int) = z.cyl * z.heads * z.per) (hl : ∀ d ∈ l, d.bare = z.bare ∧ d.secs.length = n ∧ ∀ s ∈ d.secs, secOk s (szN z.size) = true) : dumpsOk l = true := by
  have key : ∀ d ∈ l, discOk d = true := fun d hd => by
    obtain ⟨hb, hn', hs⟩ := hl d hd
    simp only [Dsc.bare, Dsc.mk.injEq] at hb
    obtain ⟨e1, e2, e3, e4, _⟩ := hb
    unfold discOk
    rw [e1, e2, e3, e4, hg, hn', hn]
    simp only [beq_self_eq_true, Bool.true_and, List.all_eq_true]
    exact hs
  obtain ⟨y, hy⟩ : ∃ y, l[0]? = some y := ⟨l[0], List.getElem?_eq_getElem h1⟩
  rw [du_at hy h5, List.all_eq_true]
  intro d hd
  have h2 := (hl d hd).1
  have h3 := (hl y (List.mem_of_getElem? hy)).1
  simp only [Dsc.bare, Dsc.mk.injEq] at h2 h3
  rw [key d hd]
  unfold sameG
  simp [h2, h3]
end Go.Proofs.Ytignjjkldmninaa
namespace Go.Proofs.Ytignjjkldmninaa
open Go.RowKit
abbrev dskL (C H T S : Int) (v : Value) : List Value := [.int .i64 C, .int .i64 H, .int .i64 T, .int .i64 S, v]
theorem DscOwn.base {B B' : Nat} {w : World} {v : Value} {l : List Dsc} (h : DscOwn B w v l) (hB : B' ≤ B) : DscOwn B' w v l := by
  obtain ⟨A, c, rfl, h⟩ := h
  refine ⟨A, c, rfl, ?_⟩
  rcases h with h | ⟨g, rfl, h1, h2, h3⟩
  · exact .inl h
  · exact .inr ⟨g, rfl, Nat.le_trans hB h1, h2, fun k e he => by
      obtain ⟨bv, h4, h5⟩ := h3 k e he
      exact ⟨bv, OwnL.base h4 hB, h5⟩⟩
theorem dpc_one {B : Nat} {w : World} {v : Value} {p : Dsc} {l : List Sec} (h : SecOwn B w v l) : ∀ u ∈ dpc (p, v), u.oneCell' = true := by
  obtain ⟨A, c, rfl, _⟩ := OwnL.shape h
  simp [dpc, Value.oneCell']
set_option maxRecDepth 20000 in
set_option maxHeartbeats 8000000 in
theorem draw24 (g : Nat) (A : Option Addr) (n c a : Nat) (w : World) (h : DrAt w g A n c a) (hn : n ≤ 1048576) (ha : a ≤ 1048576) :
    Calls Try.prog 102 #[.pointer (some ⟨g, 0, none⟩)] w fun e w' => ∃ v l, e = .returned v ∧ DscOwn w.heap.size w' v l ∧ dumpsOk l = true ∧ Chg g (g + 1) w w' := by
  obtain ⟨i0, hi, hz0, hz1, hz2⟩ := info_parts Sec.info
  obtain ⟨i1, ji, jz0, jz1, jz2⟩ := info_parts dpc_info
  have hgw := h.lt
  go_enter Try.func102, Try.ntmps102
  go_wp2_with (fail)
  refine (pick_s g A n c a 2 _ h hn (by omega) (by omega)).mono ?_; rintro e w1 ⟨r1, hr1, rfl, a1, h11, h12, D1, C1, S1⟩
  obtain ⟨C, hC, hC1⟩ : ∃ C : Int, 1 + (r1 : Int) = C ∧ (1 ≤ C ∧ C ≤ 2) := ⟨_, rfl, by omega, by omega⟩
  have hr1b : (r1 : Int) ≤ 1 := by omega
  have hzw1 : w.heap.size ≤ w1.heap.size := by omega
  have X1 : DwB w g A n c w1.heap.size (dskL C 0 0 0 (.slice none 0 0)) a1 (w1.alloc (.cells #[.int .i64 C, .int .i64 0, .int .i64 0, .int .i64 0, .slice none 0 0] 39)) := ⟨D1.alloc _, C1.alloc _, Row.alloc w1 _ _, alloc_fr, ⟨hzw1, by simp⟩, hgw⟩
  clear D1 C1 S1 h
  go_wp2_with (fail)
  try rw [hC]
  generalize w1.alloc (.cells #[.int .i64 C, .int .i64 0, .int .i64 0, .int .i64 0, .slice none 0 0] 39) = W1 at *
  generalize w1.heap.size = bb at *
  clear hC hr1 hr1b
  refine (pick_s g A n c a1 2 _ X1.dr hn (by omega) (by omega)).mono ?_; rintro e w2 ⟨r2, hr2, rfl, hp2⟩
  obtain ⟨a2, h21, h22, X2, _⟩ := X1.pick hp2
  obtain ⟨H, hH, hH1⟩ : ∃ H : Int, 1 + (r2 : Int) = H ∧ (1 ≤ H ∧ H ≤ 2) := ⟨_, rfl, by omega, by omega⟩
  have hr2b : (r2 : Int) ≤ 1 := by omega
  have k1 := X2.row 1 _ rfl
  have f1 := X2.fr 1
  have X2s : DwB w g A n c bb (dskL C H 0 0 (.slice none 0 0)) a2 (w2.setCell ⟨bb, 1, none⟩ (.int .i64 H)) := X2.set (o := 1) (.int .i64 H) (by simp)
  clear X1 hp2
  go_wp2_with (fail)
  try rw [hH]
  clear k1 f1 X2
  generalize w2.setCell ⟨bb, 1, none⟩ (.int .i64 H) = W2 at *
  clear hH hr2 hr2b
  refine (pick_s g A n c a2 3 _ X2s.dr hn (by omega) (by omega)).mono ?_; rintro e w3 ⟨r3, hr3, rfl, hp3⟩
  obtain ⟨a3, h31, h32, X3, _⟩ := X2s.pick hp3
  obtain ⟨T, hT, hT1⟩ : ∃ T : Int, 1 + (r3 : Int) = T ∧ (1 ≤ T ∧ T ≤ 3) := ⟨_, rfl, by omega, by omega⟩
  have hr3b : (r3 : Int) ≤ 2 := by omega
  have k2 := X3.row 2 _ rfl
  have f2 := X3.fr 2
  have X3s : DwB w g A n c bb (dskL C H T 0 (.slice none 0 0)) a3 (w3.setCell ⟨bb, 2, none⟩ (.int .i64 T)) := X3.set (o := 2) (.int .i64 T) (by simp)
  clear X2s hp3
  go_wp2_with (fail)
  try rw [hT]
  clear k2 f2 X3
  generalize w3.setCell ⟨bb, 2, none⟩ (.int .i64 T) = W3 at *
  clear hT hr3 hr3b
  refine (pick_s g A n c a3 3 _ X3s.dr hn (by omega) (by omega)).mono ?_; rintro e w4 ⟨r4, hr4, rfl, hp4⟩
  obtain ⟨a4, h41, h42, X4, _⟩ := X3s.pick hp4
  obtain ⟨S, hS, hS1⟩ : ∃ S : Int, (r4 : Int) = S ∧ (0 ≤ S ∧ S ≤ 2) := ⟨_, rfl, by omega, by omega⟩
  try rw [hS]
  have k0 := X4.row 0 _ rfl
  have k1 := X4.row 1 _ rfl
  have k2 := X4.row 2 _ rfl
  have k3 := X4.row 3 _ rfl
  have f3 := X4.fr 3
  have X4s : DwB w g A n c bb (dskL C H T S (.slice none 0 0)) a4 (w4.setCell ⟨bb, 3, none⟩ (.int .i64 S)) := X4.set (o := 3) (.int .i64 S) (by simp)
  obtain ⟨⟨m1, m2⟩, m3, m4⟩ := prod_bd (c := C) (h := H) (p := T) (by omega) (by omega) (by omega)
  clear X3s hp4 hS hr4
  go_upto_region 6 with (fail)
  clear k0 k1 k2 k3 f3 X4
  generalize w4.setCell ⟨bb, 3, none⟩ (.int .i64 S) = W4 at *
  have HG : Hid (geoB C H T S = true) := Lib.hid (by unfold geoB; rw [inB_t (by omega), inB_t (by omega), inB_t (by omega), inB_t (by omega)]; rfl)
  obtain ⟨N, hN⟩ : ∃ N : Nat, (N : Int) = C * H * T := ⟨(C * H * T).toNat, by omega⟩
  rw [← hN] at m3 m4
  rw [← hN]
  have HN := Lib.hid hN
  clear hN m1 m2
  have hN1 : 1 ≤ N ∧ N ≤ 128 := by omega
  have ha4 : a4 ≤ a + 8 := by omega
  clear m3 m4 h11 h12 h21 h22 h31 h32 h41 h42
  have hbw : w.heap.size ≤ bb := X4s.bb.1
  have HX0 := Lib.hid X4s
  have HO0 : Hid (SecOwn (bb + 1) W4 (.slice none 0 0) []) := Lib.hid OwnL.of_nil
  clear X4s
  go_loopw [4] (fun i wx => ∃ (k : Nat) (P : List Sec) (v : Value) (a' : Nat), i = .int .i64 k ∧ k ≤ N ∧ Hid (P.length + k = N) ∧ a' + 10 * k ≤ a4 + 10 * N ∧ Hid (∀ s ∈ P, secOk s (szN S) = true) ∧ Hid (DwB w g A n c bb (dskL C H T S v) a' wx) ∧ Hid (SecOwn (bb + 1) wx v P)) (fun i _ => (intOf i).toNat)
  case atStart => exact ⟨N, [], .slice none 0 0, a4, rfl, Nat.le_refl _, Lib.hid (by simp), by omega, Lib.hid (by simp), HX0, HO0⟩
  case round =>
    clear HX0 HO0
    obtain ⟨k, P, v, a', rfl, hkN, HP, ha', HQ, HX, HO⟩ := hrel
    by_cases hk0 : 0 < k
    · have k3 := HX.out.row 3 _ rfl
      have k4 := HX.out.row 4 _ rfl
      have q3 := (show ({ wr with drawn := wr.drawn + 1 } : World).cell? _ = _ from k3)
      have q4 := (show ({ wr with drawn := wr.drawn + 1 } : World).cell? _ = _ from k4)
      have hl1 : P.length + 1 ≤ 16777216 := by have := HP.out; omega
      go_wp2_with (fail)
      have HXd := Lib.hid HX.out.drew
      go_region_law (first
        | (refine step_app1 Sec.cells 2 Sec.len _ (by rfl) _ _ _ (by rfl) (bb + 1) 48 i0 (.agg #[.string .empty, .int .i64 0]) 24 Try.underlying37 hi hz0 hz1 hz2 rfl (by decide) v P (by rfl) (HO5.out.alloc _) _ 1 x (by rfl) (Row.alloc w5 #[.string x.data, .int .i64 x.state] 48) (sec_one x) hl1 (by decide) hbase ?_; intro g6 c6 w6 how6 hg6 hat6; have hr6 : ∀ q, v.ownBlock = some q → w.heap.size ≤ q ∧ q ≠ bb := (fun q hq => by have := (World.ownsRow.lt HO5.out q hq).1; omega); have HX6 := Lib.hid ((HX5.out.alloc (.cells #[.string x.data, .int .i64 x.state] 48)).grown hg6 hr6); have HO6 := Lib.hid how6; have t4 := HX6.out.row 4 _ rfl; have t5 := HX6.out.fr 4; clear how6 hg6)
        | (go_simp; go_at_call 124; refine (drwSec g A n c a' S _ HXd.out.dr hn (by omega) hS1).mono ?_; rintro e w5 ⟨x, rfl, hx, hp5⟩; dsimp only; obtain ⟨a5, h51, h52, X5, C5⟩ := HXd.out.new hp5; have O5 : SecOwn (bb + 1) w5 v P := OwnL.chgIn (OwnL.below HO.out (Below.refl _ _).drew) C5 (by omega); have HX5 := Lib.hid X5; have HO5 := Lib.hid O5; have Hx := Lib.hid hx; have hbase : bb + 1 ≤ (w5.alloc (.cells #[.string x.data, .int .i64 x.state] 48)).heap.size := (by have := X5.bb.2; simp; omega); have s3 := X5.row 3 _ rfl; have s4 := X5.row 4 _ rfl; have s5 : bb < w5.heap.size := X5.bb.2; clear hx hp5 X5 O5 C5))
      all_goals
        go_wp2
        go_roundw
        case rel => exact ⟨k - 1, P ++ [x], _, a5, by go_num, by omega, Lib.hid (by have := HP.out; simp; omega), by omega, Lib.hid (fun s hs => by
          rcases List.mem_append.1 hs with hs | hs
          · exact HQ.out s hs
          · obtain rfl : s = x := by simpa using hs
            exact Hx.out), Lib.hid (HX6.out.set (o := 4) (.slice (some ⟨g6, 0, none⟩) (P.length + 1) c6) (by simp)), Lib.hid (far_set HO6.out (Nat.lt_succ_self bb))⟩
        case measure => simp [intOf]; omega
    · obtain rfl : k = 0 := by omega
      obtain ⟨Ab, cb, hv, hA⟩ := OwnL.shape HO.out
      obtain ⟨gb, hAb, hgb1, hgb2⟩ := hA.resolve_left (by intro h0; have := HP.out; rw [h0] at this; simp at this; omega)
      have hPN : P.length = N := by have := HP.out; omega
      rw [hPN, hAb] at hv
      subst hv
      have HPN := Lib.hid hPN
      have a50 : a' ≤ a + 8 + 1280 := by omega
      clear hPN HP hAb hA hkN ha' ha4 hk0
      have Xa := HX.out.alloc (.cells #[] 39)
      have HO1 := Lib.hid (OwnL.alloc HO.out (.cells #[] 39))
      have HU : Hid (OutL (bb + 1) (wr.alloc (.cells #[] 39)) (.slice (some ⟨wr.heap.size, 0, none⟩) 0 0) []) := Lib.hid ⟨OwnL.of_empty wr (by have := HX.out.bb.2; omega), fun p hp => by cases hp⟩
      have HJ : Hid (Dj (.slice (some ⟨wr.heap.size, 0, none⟩) 0 0) (.slice (some ⟨gb, 0, none⟩) N cb)) := Lib.hid (fun b h1 h2 => by simp [Value.ownBlock] at h1 h2; omega)
      have HXa := Lib.hid Xa
      clear HX HO Xa
      go_wp2_with (fail)
      generalize (wr.alloc (.cells #[] 39)) = W5 at *
      generalize wr.heap.size = bo at *
      refine (pick_s g A n c a' 5 _ HXa.out.dr hn (by omega) (by omega)).mono ?_; rintro e w6 ⟨r6, hr6, rfl, hp6⟩
      obtain ⟨a6, h61, h62, X6, C6⟩ := HXa.out.pick hp6
      have HX6 := Lib.hid X6
      have HO6 := Lib.hid (OwnL.chgIn HO1.out C6 (by omega))
      have HU6 := Lib.hid (OutL.chg HU.out C6 (by omega))
      have hr6' : r6 ≤ 4 := by omega
      have a60 : a6 ≤ a + 8 + 1290 := by omega
      clear X6 C6 hp6 HO1 HU HXa hr6 h61 h62 a50
      go_wp2_with (fail)
      obtain ⟨r, hr⟩ : ∃ r : Nat, r = r6 + 1 := ⟨_, rfl⟩
      have HR := Lib.hid hr
      have hr5 : r ≤ 5 := by omega
      have HX0 := HX6
      have HO0 := HO6
      have HU0 := HU6
      have HJ0 := HJ
      clear hr HX6 HO6 HU6 HJ
      go_loopw [6, 5] (fun i out wx => ∃ (k a' : Nat) (pl : List (Dsc × Value)), i = .int .i64 ((k : Int) - 1) ∧ k ≤ r ∧ Hid (pl.length + k = r) ∧ a' + 2000 * k ≤ a6 + 2000 * r ∧ Hid (DwB w g A n c bb (dskL C H T S (.slice (some ⟨gb, 0, none⟩) N cb)) a' wx) ∧ Hid (SecOwn (bb + 1) wx (.slice (some ⟨gb, 0, none⟩) N cb) P) ∧ Hid (OutL (bb + 1) wx out pl) ∧ Hid (Dj out (.slice (some ⟨gb, 0, none⟩) N cb)) ∧ Hid (∀ p ∈ pl, p.1.bare = (⟨C, H, T, S, []⟩ : Dsc) ∧ p.1.secs.length = N ∧ ∀ s ∈ p.1.secs, secOk s (szN S) = true)) (fun i _ _ => (intOf i + 1).toNat)
      case atStart => exact ⟨r, a6, [], by rw [HR.out]; go_num, Nat.le_refl _, Lib.hid (by simp), by omega, HX0, HO0, HU0, HJ0, Lib.hid (fun p hp => by cases hp)⟩
      case round =>
        clear HX0 HO0 HU0 HJ0
        obtain ⟨k, a7, pl, rfl, hkr, HPL, ha7, HX, HO, HU, HJ, HD⟩ := hrel
        by_cases hk0 : 0 < k
        · obtain ⟨j, rfl⟩ : ∃ j, k = j + 1 := ⟨k - 1, by omega⟩
          have hj1 : (((j + 1 : Nat) : Int) - 1) = (j : Int) := by omega
          rw [hj1]
          have hgbr := (World.ownsRow.lt HO.out gb rfl)
          have HL : Hid (Calls Try.prog 82 #[.pointer (some ⟨bb, 0, none⟩)] wr fun e w' => e = .returned (.agg #[.int .i64 C, .int .i64 H, .int .i64 T, .int .i64 S, .slice none 0 0]) ∧ Below wr.heap.size wr w') := Lib.hid (like_s bb ⟨C, H, T, S, P⟩ (.slice (some ⟨gb, 0, none⟩) N cb) wr HX.out.row HX.out.bb.2)
          go_wp2_with (fail)
          refine HL.out.mono ?_; rintro e w7 ⟨rfl, hb7⟩
          clear HL
          have z7 : wr.heap.size ≤ w7.heap.size := hb7.size
          have X8 := (HX.out.below hb7).alloc (.cells #[.int .i64 C, .int .i64 H, .int .i64 T, .int .i64 S, .slice none 0 0] 39)
          have hbd : w.heap.size ≤ w7.heap.size := by have := HX.out.bb; omega
          have Y8 : DwB w g A n c w7.heap.size (dskL C H T S (.slice none 0 0)) a7 (w7.alloc (.cells #[.int .i64 C, .int .i64 H, .int .i64 T, .int .i64 S, .slice none 0 0] 39)) := ⟨X8.dr, X8.ch, Row.alloc w7 _ _, alloc_fr, ⟨hbd, by simp⟩, X8.gw⟩
          have HX8 := Lib.hid X8
          have HY8 := Lib.hid Y8
          have HO8 : Hid (SecOwn (bb + 1) (w7.alloc (.cells #[.int .i64 C, .int .i64 H, .int .i64 T, .int .i64 S, .slice none 0 0] 39)) (.slice (some ⟨gb, 0, none⟩) N cb) P) := Lib.hid (OwnL.alloc (OwnL.below HO.out hb7) _)
          have HC8 : Hid (Chg g (g + 1) wr (w7.alloc (.cells #[.int .i64 C, .int .i64 H, .int .i64 T, .int .i64 S, .slice none 0 0] 39))) := Lib.hid ((Chg.of_below hb7).alloc _)
          have HQ8 : Hid (SecOwn (w7.heap.size + 1) (w7.alloc (.cells #[.int .i64 C, .int .i64 H, .int .i64 T, .int .i64 S, .slice none 0 0] 39)) (.slice none 0 0) []) := Lib.hid OwnL.of_nil
          have hgbd : gb < w7.heap.size := by omega
          have zbd : wr.heap.size ≤ w7.heap.size := z7
          clear X8 Y8 hb7 HX HO
          go_upto_region 15 with (fail)
          generalize (w7.alloc (.cells #[.int .i64 C, .int .i64 H, .int .i64 T, .int .i64 S, .slice none 0 0] 39)) = W8 at *
          generalize w7.heap.size = bd at *
          generalize hwo : wr = wo at *
          clear hwo z7
          go_loopw [8] (fun i wx => ∃ (k2 a' : Nat) (Q : List Sec) (vd : Value), k2 ≤ N ∧ i = .int .i64 k2 ∧ Hid (Q.length = k2) ∧ a' ≤ a7 + 12 * k2 ∧ Hid (DwB w g A n c bb (dskL C H T S (.slice (some ⟨gb, 0, none⟩) N cb)) a' wx) ∧ Hid (SecOwn (bb + 1) wx (.slice (some ⟨gb, 0, none⟩) N cb) P) ∧ Hid (DwB w g A n c bd (dskL C H T S vd) a' wx) ∧ Hid (SecOwn (bd + 1) wx vd Q) ∧ Hid (∀ s ∈ Q, secOk s (szN S) = true) ∧ Hid (Chg g (g + 1) wo wx)) (fun i _ => N - (intOf i).toNat)
          case atStart => exact ⟨0, a7, [], .slice none 0 0, by omega, rfl, Lib.hid rfl, by omega, HX8, HO8, HY8, HQ8, Lib.hid (by simp), HC8⟩
          case round =>
            clear HX8 HO8 HY8 HQ8 HC8
            obtain ⟨k2, a8, Q, vd, hk2, rfl, HQL, ha8, HX, HO, HY, HQ2, HS2, HC⟩ := hrel
            have x4 := HX.out.row 4 _ rfl
            by_cases hlt : k2 < N
            · obtain ⟨e, he⟩ : ∃ e, P[k2]? = some e := ⟨P[k2]'(by have := HPN.out; omega), List.getElem?_eq_getElem (by have := HPN.out; omega)⟩
              have p0 : wr.cell? ⟨gb, k2 * 2, none⟩ = some (.string e.data) := OwnL.at1 (j := 0) Sec.len HO.out he rfl
              have p1 : wr.cell? ⟨gb, k2 * 2 + 1, none⟩ = some (.int .i64 e.state) := OwnL.at1 (j := 1) Sec.len HO.out he rfl
              have He := Lib.hid (HQ.out e (List.mem_of_getElem? he))
              have XA := HX.out.alloc (.cells #[.string e.data, .int .i64 e.state] 48)
              have YA := HY.out.alloc (.cells #[.string e.data, .int .i64 e.state] 48)
              have OA := OwnL.alloc HO.out (.cells #[.string e.data, .int .i64 e.state] 48)
              have QA := OwnL.alloc HQ2.out (.cells #[.string e.data, .int .i64 e.state] 48)
              have CA := HC.out.alloc (.cells #[.string e.data, .int .i64 e.state] 48)
              have hwx : w.heap.size ≤ wr.heap.size := HX.out.ch.size
              have ZA : DwB w g A n c wr.heap.size [.string e.data, .int .i64 e.state] a8 (wr.alloc (.cells #[.string e.data, .int .i64 e.state] 48)) := ⟨XA.dr, XA.ch, Row.alloc wr _ _, alloc_fr, ⟨hwx, by simp⟩, XA.gw⟩
              have hbx : bd < wr.heap.size := HY.out.bb.2
              have hbbx : bb < wr.heap.size := HX.out.bb.2
              have hqx := fun q hq => World.ownsRow.lt HQ2.out q hq
              clear he
              go_wp2_with (fail)
              generalize (wr.alloc (.cells #[.string e.data, .int .i64 e.state] 48)) = W9 at *
              refine (one_s g A n c a8 4 _ XA.dr hn (by omega) (by omega)).mono ?_; rintro e9 w10 ⟨b10, rfl, a10, h101, h102, D10, C10, S10⟩
              have HXB := Lib.hid (XA.of D10 C10)
              have HYB := Lib.hid (YA.of D10 C10)
              have HZB := Lib.hid (ZA.of D10 C10)
              have HOB := Lib.hid (OwnL.chgIn OA C10 (by omega))
              have HQB := Lib.hid (OwnL.chgIn QA C10 (by omega))
              have HCB := Lib.hid (CA.trans C10)
              have HS := HS2
              clear XA YA ZA OA QA CA D10 C10 S10 HX HO HY HQ2 HC p0 p1 x4
              generalize wr.heap.size = bx at *
              cases b10
              · obtain ⟨x, hx⟩ : ∃ x : Sec, x = e := ⟨_, rfl⟩
                rw [← hx] at HZB He
                clear hx
                obtain ⟨W11, rfl⟩ : ∃ W11, W11 = w10 := ⟨w10, rfl⟩
                obtain ⟨a11, rfl⟩ : ∃ a11, a11 = a10 := ⟨a10, rfl⟩
                have ha11 : a11 ≤ a8 + 12 := by omega
                have y4 := HYB.out.row 4 _ rfl
                have y5 := HYB.out.fr 4
                have z0 := HZB.out.row 0 _ rfl
                have z1 := HZB.out.row 1 _ rfl
                have hl1 : Q.length + 1 ≤ 16777216 := by have := HQL.out; omega
                have hbase : bd + 1 ≤ (W11.alloc (.cells #[.string x.data, .int .i64 x.state] 48)).heap.size := by have := HYB.out.bb.2; simp; omega
                have hqb := fun q hq => World.ownsRow.lt HQB.out q hq
                go_wp2_with (at_builtin; refine wpList_app1 Sec.cells 2 Sec.len _ rfl _ _ _ rfl (bd + 1) 48 i0 (.agg #[.string .empty, .int .i64 0]) 24 Try.underlying37 hi hz0 hz1 hz2 rfl (by decide) _ Q rfl (HQB.out.alloc _) _ 1 x rfl ?_ (sec_one x) hl1 (by decide) hbase ?_; (· intro j u hu; match j, hu with | 0, hu => (simp [Sec.cells] at hu; subst hu; simp) | 1, hu => (simp [Sec.cells] at hu; subst hu; simp) | j + 2, hu => simp [Sec.cells] at hu); intro v12 w12 how12 hg12; obtain ⟨A12, n12, c12, rfl⟩ := own_slice how12; have HY12 := Lib.hid ((HYB.out.alloc (.cells #[.string x.data, .int .i64 x.state] 48)).grown hg12 (fun q hq => by have := (hqb q hq).1; omega)); have HX12 := Lib.hid ((HXB.out.alloc (.cells #[.string x.data, .int .i64 x.state] 48)).grown hg12 (fun q hq => by have := (hqb q hq).1; omega)); have HO12 := Lib.hid (OwnL.grown (OwnL.alloc HOB.out (.cells #[.string x.data, .int .i64 x.state] 48)) hg12 (fun q hq he => by have := (hqb q hq).1; simp [Value.ownBlock] at he; omega)); have HC12 := Lib.hid ((HCB.out.alloc (.cells #[.string x.data, .int .i64 x.state] 48)).grown hg12 (fun q hq => by have := (hqb q hq).1; omega)); have HQ12 := Lib.hid how12; have t4 := HY12.out.row 4 _ rfl; have t5 := HY12.out.fr 4; clear how12 hg12)
                go_roundw
                case rel => exact ⟨k2 + 1, a11, Q ++ [x], _, by omega, by go_num, Lib.hid (by have := HQL.out; simp; omega), by omega, Lib.hid (HX12.out.setOther (b' := bd) (o := 4) (.slice A12 n12 c12) hbd (by omega)), Lib.hid (OwnL.notIn HO12.out (by simp [Value.ownBlock]; omega)), Lib.hid (HY12.out.set (o := 4) (.slice A12 n12 c12) (by simp)), Lib.hid (far_set HQ12.out (Nat.lt_succ_self bd)), Lib.hid (fun s hs => by
                  rcases List.mem_append.1 hs with hs | hs
                  · exact HS.out s hs
                  · obtain rfl : s = x := by simpa using hs
                    exact He.out), Lib.hid (HC12.out.setNew zbd _)⟩
                case measure => simp [intOf]; omega
              · have k3 := HXB.out.row 3 _ rfl
                have z0 := HZB.out.row 0 _ rfl
                have z1 := HZB.out.row 1 _ rfl
                go_wp2_with (fail)
                refine (drwSec g A n c a10 S _ HXB.out.dr hn (by omega) hS1).mono ?_; rintro e11 w11 ⟨x, rfl, hx, a11, h111, h112, D11, C11⟩
                have Z11 := HZB.out.of D11 C11
                have y0 := Z11.row 0 _ rfl
                have y1 := Z11.row 1 _ rfl
                have y2 := Z11.fr 0
                have y3 := Z11.fr 1
                have HZC : Hid (DwB w g A n c bx [.string x.data, .int .i64 x.state] a11 ((w11.setCell ⟨bx, 0, none⟩ (.string x.data)).setCell ⟨bx, 1, none⟩ (.int .i64 x.state))) := Lib.hid ((Z11.set (o := 0) (.string x.data) (by simp)).set (o := 1) (.int .i64 x.state) (by simp))
                have HXC := Lib.hid (((HXB.out.of D11 C11).setOther (b' := bx) (o := 0) (.string x.data) hwx (by omega)).setOther (b' := bx) (o := 1) (.int .i64 x.state) hwx (by omega))
                have HYC := Lib.hid (((HYB.out.of D11 C11).setOther (b' := bx) (o := 0) (.string x.data) hwx (by omega)).setOther (b' := bx) (o := 1) (.int .i64 x.state) hwx (by omega))
                have HOC := Lib.hid (OwnL.notIn (g := bx) (o := 1) (u := .int .i64 x.state) (OwnL.notIn (g := bx) (o := 0) (u := .string x.data) (OwnL.chgIn HOB.out C11 (by omega)) (by simp [Value.ownBlock]; omega)) (by simp [Value.ownBlock]; omega))
                have HQC := Lib.hid (OwnL.notIn (g := bx) (o := 1) (u := .int .i64 x.state) (OwnL.notIn (g := bx) (o := 0) (u := .string x.data) (OwnL.chgIn HQB.out C11 (by omega)) (by intro h; have := (hqx bx h).2; omega)) (by intro h; have := (hqx bx h).2; omega))
                have HCC := Lib.hid (((HCB.out.trans C11).setNew (b := bx) (o := 0) (by have := zbd; omega) (.string x.data)).setNew (b := bx) (o := 1) (by omega) (.int .i64 x.state))
                have Hx := Lib.hid hx
                go_upto_region 20 with (fail)
                clear HXB HYB HZB HOB HQB HCB He Z11 D11 C11 hx y0 y1 y2 y3 z0 z1 k3
                generalize ((w11.setCell ⟨bx, 0, none⟩ (.string x.data)).setCell ⟨bx, 1, none⟩ (.int .i64 x.state)) = W11 at *
                have ha11 : a11 ≤ a8 + 12 := by omega
                have HXB := HXC
                have HYB := HYC
                have HZB := HZC
                have HOB := HOC
                have HQB := HQC
                have HCB := HCC
                have He := Hx
                clear HXC HYC HZC HOC HQC HCC Hx
                have y4 := HYB.out.row 4 _ rfl
                have y5 := HYB.out.fr 4
                have z0 := HZB.out.row 0 _ rfl
                have z1 := HZB.out.row 1 _ rfl
                have hl1 : Q.length + 1 ≤ 16777216 := by have := HQL.out; omega
                have hbase : bd + 1 ≤ (W11.alloc (.cells #[.string x.data, .int .i64 x.state] 48)).heap.size := by have := HYB.out.bb.2; simp; omega
                have hqb := fun q hq => World.ownsRow.lt HQB.out q hq
                go_wp2_with (at_builtin; refine wpList_app1 Sec.cells 2 Sec.len _ rfl _ _ _ rfl (bd + 1) 48 i0 (.agg #[.string .empty, .int .i64 0]) 24 Try.underlying37 hi hz0 hz1 hz2 rfl (by decide) _ Q rfl (HQB.out.alloc _) _ 1 x rfl ?_ (sec_one x) hl1 (by decide) hbase ?_; (· intro j u hu; match j, hu with | 0, hu => (simp [Sec.cells] at hu; subst hu; simp) | 1, hu => (simp [Sec.cells] at hu; subst hu; simp) | j + 2, hu => simp [Sec.cells] at hu); intro v12 w12 how12 hg12; obtain ⟨A12, n12, c12, rfl⟩ := own_slice how12; have HY12 := Lib.hid ((HYB.out.alloc (.cells #[.string x.data, .int .i64 x.state] 48)).grown hg12 (fun q hq => by have := (hqb q hq).1; omega)); have HX12 := Lib.hid ((HXB.out.alloc (.cells #[.string x.data, .int .i64 x.state] 48)).grown hg12 (fun q hq => by have := (hqb q hq).1; omega)); have HO12 := Lib.hid (OwnL.grown (OwnL.alloc HOB.out (.cells #[.string x.data, .int .i64 x.state] 48)) hg12 (fun q hq he => by have := (hqb q hq).1; simp [Value.ownBlock] at he; omega)); have HC12 := Lib.hid ((HCB.out.alloc (.cells #[.string x.data, .int .i64 x.state] 48)).grown hg12 (fun q hq => by have := (hqb q hq).1; omega)); have HQ12 := Lib.hid how12; have t4 := HY12.out.row 4 _ rfl; have t5 := HY12.out.fr 4; clear how12 hg12)
                go_roundw
                case rel => exact ⟨k2 + 1, a11, Q ++ [x], _, by omega, by go_num, Lib.hid (by have := HQL.out; simp; omega), by omega, Lib.hid (HX12.out.setOther (b' := bd) (o := 4) (.slice A12 n12 c12) hbd (by omega)), Lib.hid (OwnL.notIn HO12.out (by simp [Value.ownBlock]; omega)), Lib.hid (HY12.out.set (o := 4) (.slice A12 n12 c12) (by simp)), Lib.hid (far_set HQ12.out (Nat.lt_succ_self bd)), Lib.hid (fun s hs => by
                  rcases List.mem_append.1 hs with hs | hs
                  · exact HS.out s hs
                  · obtain rfl : s = x := by simpa using hs
                    exact He.out), Lib.hid (HC12.out.setNew zbd _)⟩
                case measure => simp [intOf]; omega
            · obtain rfl : k2 = N := by omega
              obtain ⟨Ad, nd, cd, rfl⟩ := own_slice HQ2.out
              have HPb : Hid (pl.length + 1 ≤ 16777216) := Lib.hid (by have := HPL.out; omega)
              have y0 := HY.out.row 0 _ rfl
              have y1 := HY.out.row 1 _ rfl
              have y2 := HY.out.row 2 _ rfl
              have y3 := HY.out.row 3 _ rfl
              have y4 := HY.out.row 4 _ rfl
              have hdj : Dj u5 (.slice Ad nd cd) := fun b h1 h2 => by
                have q1 := (World.ownsRow.lt HU.out.o b h1).2
                have q2 := (World.ownsRow.lt HQ2.out b h2).1
                omega
              have HDJ := Lib.hid hdj
              have hbase : bb + 1 ≤ (wr.alloc (.cells #[.int .i64 C, .int .i64 H, .int .i64 T, .int .i64 S, .slice Ad nd cd] 39)).heap.size := by have := HX.out.bb.2; simp; omega
              have HU9 := Lib.hid (OutL.chg HU.out (HC.out.alloc (.cells #[.int .i64 C, .int .i64 H, .int .i64 T, .int .i64 S, .slice Ad nd cd] 39)) (by omega))
              have HQ9 : Hid (SecOwn (bb + 1) (wr.alloc (.cells #[.int .i64 C, .int .i64 H, .int .i64 T, .int .i64 S, .slice Ad nd cd] 39)) (.slice Ad nd cd) (⟨C, H, T, S, Q⟩ : Dsc).secs) := Lib.hid (OwnL.base (OwnL.alloc HQ2.out _) (by omega))
              clear hdj
              go_wp2_with (at_builtin; refine wpList_app1at dpc 5 dpc_len _ rfl _ _ _ rfl (bb + 1) 39 i1 (.agg #[.int .i64 0, .int .i64 0, .int .i64 0, .int .i64 0, .slice none 0 0]) 56 Try.underlying25 ji jz0 jz1 jz2 rfl (by decide) _ pl rfl HU9.out.o _ 1 (⟨C, H, T, S, Q⟩, .slice Ad nd cd) rfl ?_ ?_ HPb.out (by decide) hbase ?_; (· intro j u hu; exact Row.alloc wr #[.int .i64 C, .int .i64 H, .int .i64 T, .int .i64 S, .slice Ad nd cd] 39 j u hu); (· intro u hu; exact dpc_one HQ9.out u hu); intro v9 w9 how9 hg9 hbl9)
              go_roundw
              case rel => exact ⟨j, a8, pl ++ [(⟨C, H, T, S, Q⟩, .slice Ad nd cd)], by go_num, by omega, Lib.hid (by have := HPL.out; simp; omega), by omega, Lib.hid ((HX.out.alloc (.cells #[.int .i64 C, .int .i64 H, .int .i64 T, .int .i64 S, .slice Ad nd cd] 39)).grown hg9 (fun q hq => by have := (World.ownsRow.lt HU9.out.o q hq).1; omega)), Lib.hid (OwnL.grown (OwnL.alloc HO.out (.cells #[.int .i64 C, .int .i64 H, .int .i64 T, .int .i64 S, .slice Ad nd cd] 39)) hg9 (fun q hq he => HJ.out q hq he)), Lib.hid (HU9.out.snoc how9 hg9 hbl9 HQ9.out HDJ.out), Lib.hid (HJ.out.new hbl9 (fun b hb => by simp [Value.ownBlock] at hb; subst hb; simp; have := HY.out.bb.2; omega)), Lib.hid (fun p hp => by
                rcases List.mem_append.1 hp with hp | hp
                · exact HD.out p hp
                · obtain rfl : p = (⟨C, H, T, S, Q⟩, .slice Ad nd cd) := by simpa using hp
                  exact ⟨rfl, HQL.out, HS2.out⟩)⟩
              case measure => first | (simp [intOf]; done) | (simp [intOf]; omega)
        · obtain rfl : k = 0 := by omega
          have hpl : pl.length = r := by have := HPL.out; omega
          have HF := Lib.hid (dumps_of (l := pl.map Prod.fst) (z := ⟨C, H, T, S, []⟩) (n := N) (by rw [List.length_map, hpl, HR.out]; omega) (by rw [List.length_map, hpl]; exact hr5) HG.out HN.out (fun d hd => by
            obtain ⟨p, hp, rfl⟩ := List.mem_map.1 hd
            exact HD.out p hp))
          clear hpl
          go_wp2
          exact bodyPost_ret (v := u5) (by simp [results, Try.results102, go_sem]; try done) rfl ⟨u5, pl.map Prod.fst, rfl, DscOwn.base (OutL.own HU.out) (by omega), HF.out, HX.out.ch⟩
end Go.Proofs.Ytignjjkldmninaa
namespace Go.Proofs.Ytignjjkldmninaa
open Go.RowKit
set_option maxHeartbeats 1000000 in
theorem e8dumps_s (A : Option Addr) (n c : Nat) (w : World) (h : BytesIn w A n) (hn : n ≤ 1048576) :
    Calls Try.prog 57 #[.slice A n c] w fun e w' => ∃ v l, e = .returned v ∧ DscOwn w.heap.size w' v l ∧ dumpsOk l = true ∧ Below w.heap.size w w' := by
  have hD : DrAt (w.alloc (.cells #[.slice A n c, .int .i64 0, .int .u64 0] 130)) w.heap.size A n c 0 := by
    refine ⟨by simp, by simp, by simp, ⟨0, by simp⟩, by simp, ?_⟩
    rcases h with h | ⟨b, o, h1, h2, h3⟩
    · exact .inl h
    · exact .inr ⟨b, o, h1, h2, fun j hj => by
        obtain ⟨x, hx, hc⟩ := h3 j hj
        exact ⟨x, hx, (World.cell?_alloc_old _ _ _ (Nat.ne_of_lt h2)).trans hc⟩⟩
  have HG := draw24 w.heap.size A n c 0 _ hD hn (by omega)
  clear h hD
  go_enter Try.func57, Try.ntmps57
  go_wp2_with (first | (go_at_call 102; refine HG.mono ?_; rintro e w1 ⟨v, l, rfl, hO, hg, hC⟩) | go_in)
  go_ret
  exact ⟨v, l, rfl, DscOwn.base hO (by simp), hg, (Below.alloc (Below.refl _ _) (Nat.le_refl _) _).trans ⟨hC.os, hC.tape, hC.output, hC.size, fun k hk => hC.block k (by simp; omega) (by omega)⟩⟩
end Go.Proofs.Ytignjjkldmninaa
