/- The reference's drawn group of blocks. -/
import Derived.Test.YtkdadaocbfbndaaDraw2
import Derived.Test.YtkdadaocbfbndaaGroup2
import Derived.Test.YtkdadaocbfbndaaHString
namespace Go.Proofs.Ytkdadaocbfbndaa
set_option linter.unusedVariables false
open Go.RowKit
def ucell (x : Nat) : List Value := [.int .u8 (x : Int)]
theorem ucell_len (x : Nat) : (ucell x).length = 1 := rfl
theorem ucell_info : (Try.prog.info? 5).map (fun i => (i.zero, i.size, i.bytes)) = some (some (.int .u8 0), 1, 1) := by kernel_rfl
abbrev BytesL (B : Nat) (w : World) (v : Value) (l : List Nat) : Prop := OwnL ucell 1 5 B w v l
theorem OwnL.blk {α : Type} {f : α → List Value} {z : Nat} {e : TypeId} {B : Nat} {w w' : World} {v : Value} {l : List α} (h : OwnL f z e B w v l) (hb : ∀ k, v.ownBlock = some k → w'.heap[k]? = w.heap[k]?) : OwnL f z e B w' v l := by
  refine ⟨h.1, ?_⟩
  rcases h.2 with hn | ⟨g, cap, cur, rfl, hbg, hh, rest⟩
  · exact .inl hn
  · exact .inr ⟨g, cap, cur, rfl, hbg, (hb g rfl).trans hh, rest⟩
theorem BytesL.buf {B g n c : Nat} {w : World} {l : List Nat} (h : BytesL B w (.slice (some ⟨g, 0, none⟩) n c) l) (hn : l.length = n) : Buf w g l := by
  subst hn
  intro j x hj
  have h1 := OwnL.cell ucell_len h hj (j := 0) rfl
  exact ⟨by simpa using h1, OwnL.frozen h⟩
theorem DrAt.grown {w w' : World} {g : Nat} {A : Option Addr} {n c a : Nat} {row : Option Nat} (h : DrAt w g A n c a) (hg : w.grownBy w' row) (hr : ∀ k, row = some k → g < k) : DrAt w' g A n c a :=
  h.keep (fun k hk => hg.block k (Nat.lt_of_le_of_lt hk h.lt) (by intro e; have := hr k e.symm; omega)) hg.size
theorem DrAt.alloc {w : World} {g : Nat} {A : Option Addr} {n c a : Nat} (h : DrAt w g A n c a) (o : Obj) : DrAt (w.alloc o) g A n c a :=
  h.grown (World.grownBy_alloc w o none) (by intro k hk; cases hk)
theorem Chg.grown {B E : Nat} {a w w' : World} {row : Option Nat} (h : Chg B E a w) (hg : w.grownBy w' row) (hr : ∀ k, row = some k → a.heap.size ≤ k) : Chg B E a w' :=
  ⟨hg.os.trans h.os, hg.tape.trans h.tape, hg.output.trans h.output, Nat.le_trans h.size hg.size, fun k hk hne => (hg.block k (Nat.lt_of_lt_of_le hk h.size) (by intro e; have := hr k e.symm; omega)).trans (h.block k hk hne)⟩
theorem Chg.alloc {B E : Nat} {a w : World} (h : Chg B E a w) (o : Obj) : Chg B E a (w.alloc o) := h.grown (World.grownBy_alloc w o none) (by intro k hk; cases hk)
theorem group_of {l : List ByteArray} {n z : Nat} (hl : l.length = n) (hn : 1 ≤ n ∧ n ≤ 128) (hz : 1 ≤ z ∧ z ≤ 64) (hs : ∀ s ∈ l, s.size = z) : groupB l = true := by
  cases l with
  | nil => simp at hl; omega
  | cons s r =>
    have h0 := hs s List.mem_cons_self
    unfold groupB sizesAre
    simp only [Bool.and_eq_true, decide_eq_true_eq, List.all_eq_true]
    exact ⟨⟨by omega, by omega, by omega⟩, fun t ht => (hs t ht).trans h0.symm⟩
set_option maxRecDepth 20000 in
set_option maxHeartbeats 4000000 in
theorem drawG_s (g : Nat) (A : Option Addr) (n c a : Nat) (w : World) (h : DrAt w g A n c a) (hn : n ≤ 1048576) (ha : a ≤ 1048576) :
    Calls Try.prog 57 #[.pointer (some ⟨g, 0, none⟩)] w fun e w' => ∃ v l, e = .returned v ∧ StringL w.heap.size w' v l ∧ groupB l = true ∧ Chg g (g + 1) w w' := by
  obtain ⟨i0, hi, hz0, hz1, hz2⟩ := info_parts scell_info
  obtain ⟨i1, ji, jz0, jz1, jz2⟩ := info_parts ucell_info
  go_enter Try.func57, Try.ntmps57
  go_wp2_with (fail)
  refine (pick_s g A n c a 7 _ h hn (by omega) (by omega)).mono ?_; rintro e w1 ⟨r1, hr1, rfl, a1, h11, h12, D1, C1, S1⟩
  go_wp2_with (fail)
  refine (pick_s g A n c a1 8 _ D1 hn (by omega) (by omega)).mono ?_; rintro e w2 ⟨r2, hr2, rfl, a2, h21, h22, D2, C2, S2⟩
  go_wp2_with (fail)
  refine (one_s g A n c a2 20 _ D2 hn (by omega) (by omega)).mono ?_; rintro e w3 ⟨b3, rfl, a3, h31, h32, D3, C3, S3⟩
  have C13 := (C1.trans C2).trans C3
  have r7 : (r1 : Int) ≤ 6 := by omega
  have r8 : (r2 : Int) ≤ 7 := by omega
  have hgw := h.lt
  clear h C1 C2 C3 D1 D2
  have hz3 : w.heap.size ≤ w3.heap.size := by omega
  clear S1 S2 S3
  cases b3
  · obtain ⟨N, hN⟩ : ∃ N : Nat, 1 + (r1 : Int) = N := ⟨1 + r1, by omega⟩
    obtain ⟨Z, hZ⟩ : ∃ Z : Nat, 1 + (r2 : Int) = Z := ⟨1 + r2, by omega⟩
    rw [hN, hZ]
    have hN1 : 1 ≤ N ∧ N ≤ 128 := by omega
    have hZ1 : 1 ≤ Z ∧ Z ≤ 64 := by omega
    clear hN hZ r7 r8 hr1 hr2
    go_wp2_with (fail)
    refine (one_s g A n c a3 20 _ D3 hn (by omega) (by omega)).mono ?_; rintro e w6 ⟨b6, rfl, a6, h61, h62, D6, C6, S6⟩
    have C06 := C13.trans C6
    have ha6 : a6 ≤ a + 10 := by omega
    have hz6 : w.heap.size ≤ w6.heap.size := by omega
    clear D3 C6 C13 h11 h12 h21 h22 h31 h32 h61 h62 S6
    cases b6
    · go_wp2_with (fail)
      have oute : StringL w.heap.size (w6.alloc (.cells #[] 9)) (.slice (some ⟨w6.heap.size, 0, none⟩) 0 0) [] := OwnL.base (OwnL.of_empty w6 (Nat.le_refl _)) (by omega)
      go_loopw [6, 5] (fun i out wr => ∃ (k a' : Nat) (l : List ByteArray), k ≤ N ∧ i = .int .i64 k ∧ l.length = k ∧ (∀ s ∈ l, s.size = Z) ∧ a' ≤ a + 10 + 64 * k ∧ DrAt wr g A n c a' ∧ Chg g (g + 1) w wr ∧ StringL w.heap.size wr out l) (fun i _ _ => N - (intOf i).toNat)
      case atStart => exact ⟨0, a6, [], by omega, rfl, rfl, by simp, by omega, D6.alloc _, C06.alloc _, oute⟩
      case round =>
        clear oute D6 C06 ha6
        obtain ⟨k, a7, l, hk, rfl, hlk, hls, ha7, D7, C7, O7⟩ := hrel
        by_cases hlt : k < N
        · obtain ⟨W7, rfl⟩ : ∃ W7, W7 = wr := ⟨wr, rfl⟩
          have zr := C7.size
          have hlb := fun q hq => (World.ownsRow.lt O7 q hq)
          have hg7 := D7.lt
          go_wp2_with (fail)
          have HO7 := Lib.hid O7
          have HC7 := Lib.hid C7
          clear O7 C7
          have inn : BytesL W7.heap.size (W7.alloc (.cells #[] 5)) (.slice (some ⟨W7.heap.size, 0, none⟩) 0 0) [] := OwnL.of_empty W7 (Nat.le_refl _)
          obtain ⟨vo, rfl⟩ : ∃ vo, vo = u5 := ⟨u5, rfl⟩
          go_loopw [8, 7] (fun i out wx => ∃ (k2 a' : Nat) (bl : List Nat), k2 ≤ Z ∧ i = .int .i64 k2 ∧ bl.length = k2 ∧ a' ≤ a7 + k2 ∧ DrAt wx g A n c a' ∧ Chg g (g + 1) W7 wx ∧ BytesL W7.heap.size wx out bl) (fun i _ _ => Z - (intOf i).toNat)
          case atStart => exact ⟨0, a7, [], by omega, rfl, rfl, by omega, D7.alloc _, (Chg.of_below (Below.refl _ _)).alloc _, inn⟩
          case round =>
            clear inn D7
            obtain ⟨k2, a8, bl, hk2, rfl, hbl, ha8, D8, C8, O8⟩ := hrel
            have hz8 := C8.size
            have hlb8 := fun q hq => (World.ownsRow.lt O8 q hq)
            by_cases hlt2 : k2 < Z
            · have HO8 := Lib.hid O8
              have HC8 := Lib.hid C8
              clear O8 C8
              go_wp2_with (fail)
              refine (next_s g A n c a8 _ D8 hn (by omega)).mono ?_; rintro e w9 ⟨r, hr, rfl, D9, C9, S9⟩
              have O9 : BytesL W7.heap.size w9 u7 bl := OwnL.blk HO8.out (fun q hq => C9.block q (hlb8 q hq).2 (by have := (hlb8 q hq).1; omega))
              have C79 := Lib.hid (HC8.out.trans C9)
              have HO9 := Lib.hid O9
              have S9' : W7.heap.size ≤ w9.heap.size := by omega
              clear O9 C9 D8 S9
              go_wp2_with (at_builtin; refine wpList_app1 ucell 1 ucell_len _ rfl _ _ _ rfl W7.heap.size 5 i1 (.int .u8 0) 1 Try.underlying46 ji jz0 jz1 jz2 rfl (by decide) _ bl rfl (HO9.out.alloc _) w9.heap.size 1 r rfl ?_ (by simp [ucell, Value.oneCell']) (by omega) (by omega) (by simp; omega) ?_; (· intro j u hu; cases j with | zero => (simp [ucell] at hu; subst hu; simp) | succ j => simp [ucell] at hu); intro v' w10 how10 hg10)
              go_roundw
              case rel => exact ⟨k2 + 1, a8 + 1, bl ++ [r], by omega, by go_num, by simp; omega, by omega, (D9.alloc _).grown hg10 (fun q hq => by have := (hlb8 q hq).1; omega), (C79.out.alloc _).grown hg10 (fun q hq => (hlb8 q hq).1), how10⟩
              case measure => simp [intOf]; omega
            · have hbz : bl.length = Z := by omega
              obtain ⟨A8, c8, rfl, hA8⟩ := OwnL.shape O8
              obtain ⟨gb, rfl, _, _⟩ := hA8.resolve_left (by rintro rfl; simp at hbz; try omega)
              have hst := (BytesL.buf O8 rfl).str (n := bl.length) (c := c8) rfl
              have O7' := Lib.hid (OwnL.blk (w' := wr) HO7.out (fun q hq => C8.block q (hlb q hq).2 (by have := (hlb q hq).1; omega)))
              have C07 := Lib.hid (HC7.out.trans C8)
              have HBZ := Lib.hid hbz
              clear O8 C8 hA8 hlb8 hbl hbz
              go_wp2_with (at_builtin; refine wpList_app1 scell 1 scell_len _ rfl _ _ _ rfl w.heap.size 9 i0 (.string .empty) 16 Try.underlying25 hi hz0 hz1 hz2 rfl (by decide) _ l rfl (O7'.out.alloc _) wr.heap.size 1 (strN bl) rfl ?_ (by simp [scell, Value.oneCell']) (by omega) (by omega) (by simp; omega) ?_; (· intro j u hu; cases j with | zero => (simp [scell] at hu; subst hu; simp) | succ j => simp [scell] at hu); intro v' w10 how10 hg10)
              go_roundw
              case rel => exact ⟨k + 1, a8, l ++ [strN bl], by omega, by go_num, by simp; omega, fun s hs => by
                rcases List.mem_append.1 hs with hs | hs
                · exact hls s hs
                · simp at hs; subst hs; rw [strN_size]; exact HBZ.out, by omega, (D8.alloc _).grown hg10 (fun q hq => by have := (hlb q hq).1; omega), (C07.out.alloc _).grown hg10 (fun q hq => (hlb q hq).1), how10⟩
              case measure => simp [intOf]; omega
        · have hlk' : l.length = N := by omega
          go_wp2
          go_ret
          exact ⟨_, l, rfl, O7, group_of hlk' hN1 hZ1 hls, C7⟩
    · have hZ1 : 1 ≤ 64 ∧ 64 ≤ 64 := by omega
      go_wp2_with (fail)
      have oute : StringL w.heap.size (w6.alloc (.cells #[] 9)) (.slice (some ⟨w6.heap.size, 0, none⟩) 0 0) [] := OwnL.base (OwnL.of_empty w6 (Nat.le_refl _)) (by omega)
      go_loopw [6, 5] (fun i out wr => ∃ (k a' : Nat) (l : List ByteArray), k ≤ N ∧ i = .int .i64 k ∧ l.length = k ∧ (∀ s ∈ l, s.size = 64) ∧ a' ≤ a + 10 + 64 * k ∧ DrAt wr g A n c a' ∧ Chg g (g + 1) w wr ∧ StringL w.heap.size wr out l) (fun i _ _ => N - (intOf i).toNat)
      case atStart => exact ⟨0, a6, [], by omega, rfl, rfl, by simp, by omega, D6.alloc _, C06.alloc _, oute⟩
      case round =>
        clear oute D6 C06 ha6
        obtain ⟨k, a7, l, hk, rfl, hlk, hls, ha7, D7, C7, O7⟩ := hrel
        by_cases hlt : k < N
        · obtain ⟨W7, rfl⟩ : ∃ W7, W7 = wr := ⟨wr, rfl⟩
          have zr := C7.size
          have hlb := fun q hq => (World.ownsRow.lt O7 q hq)
          have hg7 := D7.lt
          go_wp2_with (fail)
          have HO7 := Lib.hid O7
          have HC7 := Lib.hid C7
          clear O7 C7
          have inn : BytesL W7.heap.size (W7.alloc (.cells #[] 5)) (.slice (some ⟨W7.heap.size, 0, none⟩) 0 0) [] := OwnL.of_empty W7 (Nat.le_refl _)
          obtain ⟨vo, rfl⟩ : ∃ vo, vo = u5 := ⟨u5, rfl⟩
          go_loopw [8, 7] (fun i out wx => ∃ (k2 a' : Nat) (bl : List Nat), k2 ≤ 64 ∧ i = .int .i64 k2 ∧ bl.length = k2 ∧ a' ≤ a7 + k2 ∧ DrAt wx g A n c a' ∧ Chg g (g + 1) W7 wx ∧ BytesL W7.heap.size wx out bl) (fun i _ _ => 64 - (intOf i).toNat)
          case atStart => exact ⟨0, a7, [], by omega, rfl, rfl, by omega, D7.alloc _, (Chg.of_below (Below.refl _ _)).alloc _, inn⟩
          case round =>
            clear inn D7
            obtain ⟨k2, a8, bl, hk2, rfl, hbl, ha8, D8, C8, O8⟩ := hrel
            have hz8 := C8.size
            have hlb8 := fun q hq => (World.ownsRow.lt O8 q hq)
            by_cases hlt2 : k2 < 64
            · have HO8 := Lib.hid O8
              have HC8 := Lib.hid C8
              clear O8 C8
              go_wp2_with (fail)
              refine (next_s g A n c a8 _ D8 hn (by omega)).mono ?_; rintro e w9 ⟨r, hr, rfl, D9, C9, S9⟩
              have O9 : BytesL W7.heap.size w9 u7 bl := OwnL.blk HO8.out (fun q hq => C9.block q (hlb8 q hq).2 (by have := (hlb8 q hq).1; omega))
              have C79 := Lib.hid (HC8.out.trans C9)
              have HO9 := Lib.hid O9
              have S9' : W7.heap.size ≤ w9.heap.size := by omega
              clear O9 C9 D8 S9
              go_wp2_with (at_builtin; refine wpList_app1 ucell 1 ucell_len _ rfl _ _ _ rfl W7.heap.size 5 i1 (.int .u8 0) 1 Try.underlying46 ji jz0 jz1 jz2 rfl (by decide) _ bl rfl (HO9.out.alloc _) w9.heap.size 1 r rfl ?_ (by simp [ucell, Value.oneCell']) (by omega) (by omega) (by simp; omega) ?_; (· intro j u hu; cases j with | zero => (simp [ucell] at hu; subst hu; simp) | succ j => simp [ucell] at hu); intro v' w10 how10 hg10)
              go_roundw
              case rel => exact ⟨k2 + 1, a8 + 1, bl ++ [r], by omega, by go_num, by simp; omega, by omega, (D9.alloc _).grown hg10 (fun q hq => by have := (hlb8 q hq).1; omega), (C79.out.alloc _).grown hg10 (fun q hq => (hlb8 q hq).1), how10⟩
              case measure => simp [intOf]; omega
            · have hbz : bl.length = 64 := by omega
              obtain ⟨A8, c8, rfl, hA8⟩ := OwnL.shape O8
              obtain ⟨gb, rfl, _, _⟩ := hA8.resolve_left (by rintro rfl; simp at hbz; try omega)
              have hst := (BytesL.buf O8 rfl).str (n := bl.length) (c := c8) rfl
              have O7' := Lib.hid (OwnL.blk (w' := wr) HO7.out (fun q hq => C8.block q (hlb q hq).2 (by have := (hlb q hq).1; omega)))
              have C07 := Lib.hid (HC7.out.trans C8)
              have HBZ := Lib.hid hbz
              clear O8 C8 hA8 hlb8 hbl hbz
              go_wp2_with (at_builtin; refine wpList_app1 scell 1 scell_len _ rfl _ _ _ rfl w.heap.size 9 i0 (.string .empty) 16 Try.underlying25 hi hz0 hz1 hz2 rfl (by decide) _ l rfl (O7'.out.alloc _) wr.heap.size 1 (strN bl) rfl ?_ (by simp [scell, Value.oneCell']) (by omega) (by omega) (by simp; omega) ?_; (· intro j u hu; cases j with | zero => (simp [scell] at hu; subst hu; simp) | succ j => simp [scell] at hu); intro v' w10 how10 hg10)
              go_roundw
              case rel => exact ⟨k + 1, a8, l ++ [strN bl], by omega, by go_num, by simp; omega, fun s hs => by
                rcases List.mem_append.1 hs with hs | hs
                · exact hls s hs
                · simp at hs; subst hs; rw [strN_size]; exact HBZ.out, by omega, (D8.alloc _).grown hg10 (fun q hq => by have := (hlb q hq).1; omega), (C07.out.alloc _).grown hg10 (fun q hq => (hlb q hq).1), how10⟩
              case measure => simp [intOf]; omega
        · have hlk' : l.length = N := by omega
          go_wp2
          go_ret
          exact ⟨_, l, rfl, O7, group_of hlk' hN1 hZ1 hls, C7⟩
  · go_wp2_with (fail)
    have D3a := D3.alloc (.cells #[.int .i64 128, .int .i64 127, .int .i64 60] 2)
    refine (among_s g A n c a3 w3.heap.size 3 [128, 127, 60] _ D3a hn (by omega) (by simp) (by simp) D3.lt (by simp) ?_).mono ?_
    · intro j x hj
      match j, hj with
      | 0, hj => simp at hj; subst hj; simp
      | 1, hj => simp at hj; subst hj; simp
      | 2, hj => simp at hj; subst hj; simp
      | j + 3, hj => simp at hj
    rintro e w5 ⟨x, hx, rfl, a5, h51, h52, D5, C5, S5⟩
    have S5' : w5.heap.size = w3.heap.size + 1 := by simpa using S5
    have C35 : Chg g (g + 1) w w5 := (C13.alloc (.cells #[.int .i64 128, .int .i64 127, .int .i64 60] 2)).trans C5
    obtain ⟨N, rfl, hN1⟩ : ∃ N : Nat, x = N ∧ (1 ≤ N ∧ N ≤ 128) := by
      simp at hx
      rcases hx with rfl | rfl | rfl
      · exact ⟨128, rfl, by omega⟩
      · exact ⟨127, rfl, by omega⟩
      · exact ⟨60, rfl, by omega⟩
    clear hx r7 r8 hr1 hr2 S5 D3a
    go_wp2_with (fail)
    refine (one_s g A n c a5 20 _ D5 hn (by omega) (by omega)).mono ?_; rintro e w6 ⟨b6, rfl, a6, h61, h62, D6, C6, S6⟩
    have C06 := C35.trans C6
    have ha6 : a6 ≤ a + 10 := by omega
    have hz6 : w.heap.size ≤ w6.heap.size := by omega
    clear D3 D5 C6 C13 C35 C5 h11 h12 h21 h22 h31 h32 h61 h62 h51 h52 S6 S5'
    cases b6
    · have hZ1 : 1 ≤ 1 ∧ 1 ≤ 64 := by omega
      go_wp2_with (fail)
      have oute : StringL w.heap.size (w6.alloc (.cells #[] 9)) (.slice (some ⟨w6.heap.size, 0, none⟩) 0 0) [] := OwnL.base (OwnL.of_empty w6 (Nat.le_refl _)) (by omega)
      go_loopw [6, 5] (fun i out wr => ∃ (k a' : Nat) (l : List ByteArray), k ≤ N ∧ i = .int .i64 k ∧ l.length = k ∧ (∀ s ∈ l, s.size = 1) ∧ a' ≤ a + 10 + 64 * k ∧ DrAt wr g A n c a' ∧ Chg g (g + 1) w wr ∧ StringL w.heap.size wr out l) (fun i _ _ => N - (intOf i).toNat)
      case atStart => exact ⟨0, a6, [], by omega, rfl, rfl, by simp, by omega, D6.alloc _, C06.alloc _, oute⟩
      case round =>
        clear oute D6 C06 ha6
        obtain ⟨k, a7, l, hk, rfl, hlk, hls, ha7, D7, C7, O7⟩ := hrel
        by_cases hlt : k < N
        · obtain ⟨W7, rfl⟩ : ∃ W7, W7 = wr := ⟨wr, rfl⟩
          have zr := C7.size
          have hlb := fun q hq => (World.ownsRow.lt O7 q hq)
          have hg7 := D7.lt
          go_wp2_with (fail)
          have HO7 := Lib.hid O7
          have HC7 := Lib.hid C7
          clear O7 C7
          have inn : BytesL W7.heap.size (W7.alloc (.cells #[] 5)) (.slice (some ⟨W7.heap.size, 0, none⟩) 0 0) [] := OwnL.of_empty W7 (Nat.le_refl _)
          obtain ⟨vo, rfl⟩ : ∃ vo, vo = u5 := ⟨u5, rfl⟩
          go_loopw [8, 7] (fun i out wx => ∃ (k2 a' : Nat) (bl : List Nat), k2 ≤ 1 ∧ i = .int .i64 k2 ∧ bl.length = k2 ∧ a' ≤ a7 + k2 ∧ DrAt wx g A n c a' ∧ Chg g (g + 1) W7 wx ∧ BytesL W7.heap.size wx out bl) (fun i _ _ => 1 - (intOf i).toNat)
          case atStart => exact ⟨0, a7, [], by omega, rfl, rfl, by omega, D7.alloc _, (Chg.of_below (Below.refl _ _)).alloc _, inn⟩
          case round =>
            clear inn D7
            obtain ⟨k2, a8, bl, hk2, rfl, hbl, ha8, D8, C8, O8⟩ := hrel
            have hz8 := C8.size
            have hlb8 := fun q hq => (World.ownsRow.lt O8 q hq)
            by_cases hlt2 : k2 < 1
            · have HO8 := Lib.hid O8
              have HC8 := Lib.hid C8
              clear O8 C8
              go_wp2_with (fail)
              refine (next_s g A n c a8 _ D8 hn (by omega)).mono ?_; rintro e w9 ⟨r, hr, rfl, D9, C9, S9⟩
              have O9 : BytesL W7.heap.size w9 u7 bl := OwnL.blk HO8.out (fun q hq => C9.block q (hlb8 q hq).2 (by have := (hlb8 q hq).1; omega))
              have C79 := Lib.hid (HC8.out.trans C9)
              have HO9 := Lib.hid O9
              have S9' : W7.heap.size ≤ w9.heap.size := by omega
              clear O9 C9 D8 S9
              go_wp2_with (at_builtin; refine wpList_app1 ucell 1 ucell_len _ rfl _ _ _ rfl W7.heap.size 5 i1 (.int .u8 0) 1 Try.underlying46 ji jz0 jz1 jz2 rfl (by decide) _ bl rfl (HO9.out.alloc _) w9.heap.size 1 r rfl ?_ (by simp [ucell, Value.oneCell']) (by omega) (by omega) (by simp; omega) ?_; (· intro j u hu; cases j with | zero => (simp [ucell] at hu; subst hu; simp) | succ j => simp [ucell] at hu); intro v' w10 how10 hg10)
              go_roundw
              case rel => exact ⟨k2 + 1, a8 + 1, bl ++ [r], by omega, by go_num, by simp; omega, by omega, (D9.alloc _).grown hg10 (fun q hq => by have := (hlb8 q hq).1; omega), (C79.out.alloc _).grown hg10 (fun q hq => (hlb8 q hq).1), how10⟩
              case measure => simp [intOf]; omega
            · have hbz : bl.length = 1 := by omega
              obtain ⟨A8, c8, rfl, hA8⟩ := OwnL.shape O8
              obtain ⟨gb, rfl, _, _⟩ := hA8.resolve_left (by rintro rfl; simp at hbz; try omega)
              have hst := (BytesL.buf O8 rfl).str (n := bl.length) (c := c8) rfl
              have O7' := Lib.hid (OwnL.blk (w' := wr) HO7.out (fun q hq => C8.block q (hlb q hq).2 (by have := (hlb q hq).1; omega)))
              have C07 := Lib.hid (HC7.out.trans C8)
              have HBZ := Lib.hid hbz
              clear O8 C8 hA8 hlb8 hbl hbz
              go_wp2_with (at_builtin; refine wpList_app1 scell 1 scell_len _ rfl _ _ _ rfl w.heap.size 9 i0 (.string .empty) 16 Try.underlying25 hi hz0 hz1 hz2 rfl (by decide) _ l rfl (O7'.out.alloc _) wr.heap.size 1 (strN bl) rfl ?_ (by simp [scell, Value.oneCell']) (by omega) (by omega) (by simp; omega) ?_; (· intro j u hu; cases j with | zero => (simp [scell] at hu; subst hu; simp) | succ j => simp [scell] at hu); intro v' w10 how10 hg10)
              go_roundw
              case rel => exact ⟨k + 1, a8, l ++ [strN bl], by omega, by go_num, by simp; omega, fun s hs => by
                rcases List.mem_append.1 hs with hs | hs
                · exact hls s hs
                · simp at hs; subst hs; rw [strN_size]; exact HBZ.out, by omega, (D8.alloc _).grown hg10 (fun q hq => by have := (hlb q hq).1; omega), (C07.out.alloc _).grown hg10 (fun q hq => (hlb q hq).1), how10⟩
              case measure => simp [intOf]; omega
        · have hlk' : l.length = N := by omega
          go_wp2
          go_ret
          exact ⟨_, l, rfl, O7, group_of hlk' hN1 hZ1 hls, C7⟩
    · have hZ1 : 1 ≤ 64 ∧ 64 ≤ 64 := by omega
      go_wp2_with (fail)
      have oute : StringL w.heap.size (w6.alloc (.cells #[] 9)) (.slice (some ⟨w6.heap.size, 0, none⟩) 0 0) [] := OwnL.base (OwnL.of_empty w6 (Nat.le_refl _)) (by omega)
      go_loopw [6, 5] (fun i out wr => ∃ (k a' : Nat) (l : List ByteArray), k ≤ N ∧ i = .int .i64 k ∧ l.length = k ∧ (∀ s ∈ l, s.size = 64) ∧ a' ≤ a + 10 + 64 * k ∧ DrAt wr g A n c a' ∧ Chg g (g + 1) w wr ∧ StringL w.heap.size wr out l) (fun i _ _ => N - (intOf i).toNat)
      case atStart => exact ⟨0, a6, [], by omega, rfl, rfl, by simp, by omega, D6.alloc _, C06.alloc _, oute⟩
      case round =>
        clear oute D6 C06 ha6
        obtain ⟨k, a7, l, hk, rfl, hlk, hls, ha7, D7, C7, O7⟩ := hrel
        by_cases hlt : k < N
        · obtain ⟨W7, rfl⟩ : ∃ W7, W7 = wr := ⟨wr, rfl⟩
          have zr := C7.size
          have hlb := fun q hq => (World.ownsRow.lt O7 q hq)
          have hg7 := D7.lt
          go_wp2_with (fail)
          have HO7 := Lib.hid O7
          have HC7 := Lib.hid C7
          clear O7 C7
          have inn : BytesL W7.heap.size (W7.alloc (.cells #[] 5)) (.slice (some ⟨W7.heap.size, 0, none⟩) 0 0) [] := OwnL.of_empty W7 (Nat.le_refl _)
          obtain ⟨vo, rfl⟩ : ∃ vo, vo = u5 := ⟨u5, rfl⟩
          go_loopw [8, 7] (fun i out wx => ∃ (k2 a' : Nat) (bl : List Nat), k2 ≤ 64 ∧ i = .int .i64 k2 ∧ bl.length = k2 ∧ a' ≤ a7 + k2 ∧ DrAt wx g A n c a' ∧ Chg g (g + 1) W7 wx ∧ BytesL W7.heap.size wx out bl) (fun i _ _ => 64 - (intOf i).toNat)
          case atStart => exact ⟨0, a7, [], by omega, rfl, rfl, by omega, D7.alloc _, (Chg.of_below (Below.refl _ _)).alloc _, inn⟩
          case round =>
            clear inn D7
            obtain ⟨k2, a8, bl, hk2, rfl, hbl, ha8, D8, C8, O8⟩ := hrel
            have hz8 := C8.size
            have hlb8 := fun q hq => (World.ownsRow.lt O8 q hq)
            by_cases hlt2 : k2 < 64
            · have HO8 := Lib.hid O8
              have HC8 := Lib.hid C8
              clear O8 C8
              go_wp2_with (fail)
              refine (next_s g A n c a8 _ D8 hn (by omega)).mono ?_; rintro e w9 ⟨r, hr, rfl, D9, C9, S9⟩
              have O9 : BytesL W7.heap.size w9 u7 bl := OwnL.blk HO8.out (fun q hq => C9.block q (hlb8 q hq).2 (by have := (hlb8 q hq).1; omega))
              have C79 := Lib.hid (HC8.out.trans C9)
              have HO9 := Lib.hid O9
              have S9' : W7.heap.size ≤ w9.heap.size := by omega
              clear O9 C9 D8 S9
              go_wp2_with (at_builtin; refine wpList_app1 ucell 1 ucell_len _ rfl _ _ _ rfl W7.heap.size 5 i1 (.int .u8 0) 1 Try.underlying46 ji jz0 jz1 jz2 rfl (by decide) _ bl rfl (HO9.out.alloc _) w9.heap.size 1 r rfl ?_ (by simp [ucell, Value.oneCell']) (by omega) (by omega) (by simp; omega) ?_; (· intro j u hu; cases j with | zero => (simp [ucell] at hu; subst hu; simp) | succ j => simp [ucell] at hu); intro v' w10 how10 hg10)
              go_roundw
              case rel => exact ⟨k2 + 1, a8 + 1, bl ++ [r], by omega, by go_num, by simp; omega, by omega, (D9.alloc _).grown hg10 (fun q hq => by have := (hlb8 q hq).1; omega), (C79.out.alloc _).grown hg10 (fun q hq => (hlb8 q hq).1), how10⟩
              case measure => simp [intOf]; omega
            · have hbz : bl.length = 64 := by omega
              obtain ⟨A8, c8, rfl, hA8⟩ := OwnL.shape O8
              obtain ⟨gb, rfl, _, _⟩ := hA8.resolve_left (by rintro rfl; simp at hbz; try omega)
              have hst := (BytesL.buf O8 rfl).str (n := bl.length) (c := c8) rfl
              have O7' := Lib.hid (OwnL.blk (w' := wr) HO7.out (fun q hq => C8.block q (hlb q hq).2 (by have := (hlb q hq).1; omega)))
              have C07 := Lib.hid (HC7.out.trans C8)
              have HBZ := Lib.hid hbz
              clear O8 C8 hA8 hlb8 hbl hbz
              go_wp2_with (at_builtin; refine wpList_app1 scell 1 scell_len _ rfl _ _ _ rfl w.heap.size 9 i0 (.string .empty) 16 Try.underlying25 hi hz0 hz1 hz2 rfl (by decide) _ l rfl (O7'.out.alloc _) wr.heap.size 1 (strN bl) rfl ?_ (by simp [scell, Value.oneCell']) (by omega) (by omega) (by simp; omega) ?_; (· intro j u hu; cases j with | zero => (simp [scell] at hu; subst hu; simp) | succ j => simp [scell] at hu); intro v' w10 how10 hg10)
              go_roundw
              case rel => exact ⟨k + 1, a8, l ++ [strN bl], by omega, by go_num, by simp; omega, fun s hs => by
                rcases List.mem_append.1 hs with hs | hs
                · exact hls s hs
                · simp at hs; subst hs; rw [strN_size]; exact HBZ.out, by omega, (D8.alloc _).grown hg10 (fun q hq => by have := (hlb q hq).1; omega), (C07.out.alloc _).grown hg10 (fun q hq => (hlb q hq).1), how10⟩
              case measure => simp [intOf]; omega
        · have hlk' : l.length = N := by omega
          go_wp2
          go_ret
          exact ⟨_, l, rfl, O7, group_of hlk' hN1 hZ1 hls, C7⟩
end Go.Proofs.Ytkdadaocbfbndaa
