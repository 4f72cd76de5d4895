/- ReadCertificate, spec: the walk. -/
import Derived.Test.YtkpjjohanbiagaaDoorRcI
import Derived.Test.YtkpjjohanbiagaaDoorRdlS
import Derived.Test.YtkpjjohanbiagaaDoorCertS
namespace Go.Proofs.YtkpjjohanbiagaaDoor
set_option linter.unusedVariables false
set_option linter.unusedSimpArgs false
open Go.RowKit Go.Shelf
theorem srcsW_snoc (p : List (List UInt8)) (q : List UInt8) : srcsW (p ++ [q]) = (srcsW p).bind fun l => (srcW (splitF 32 [] q)).map fun e => l ++ [e] := by
  induction p with
  | nil => simp only [List.nil_append, srcsW, Option.bind_some, Option.map_some]; cases srcW (splitF 32 [] q) <;> rfl
  | cons a p ih =>
    rw [List.cons_append, srcsW, ih, srcsW]
    cases srcW (splitF 32 [] a) with
    | none => rfl
    | some e =>
      simp only [Option.bind_some]
      cases srcsW p with
      | none => rfl
      | some l =>
        simp only [Option.bind_some, Option.map_some]
        cases srcW (splitF 32 [] q) <;> rfl
theorem srcsW_none {p : List (List UInt8)} (h : srcsW p = none) : ∀ r, srcsW (p ++ r) = none := by
  induction p with
  | nil => cases h
  | cons a p ih =>
    intro r
    rw [List.cons_append, srcsW]
    rw [srcsW] at h
    cases ha : srcW (splitF 32 [] a) with
    | none => rfl
    | some e =>
      rw [ha, Option.bind_some] at h
      rw [Option.bind_some, ih (by simpa using h)]; rfl
theorem srcs_next {ls : List (List UInt8)} {k : Nat} {q : List UInt8} (h : ls[k]? = some q) {l : List Src} (H : srcsW (ls.take k) = some l) : srcsW (ls.take (k + 1)) = (srcW (splitF 32 [] q)).map fun e => l ++ [e] := by
  rw [List.take_add_one, h, Option.toList_some, srcsW_snoc, H, Option.bind_some]
theorem srcs_bad {ls : List (List UInt8)} {k : Nat} (hk : k + 1 ≤ ls.length - 1) (H : srcsW (ls.take (k + 1)) = none) : srcsW ls.dropLast = none := by
  have e : ls.dropLast = ls.take (k + 1) ++ (ls.dropLast).drop (k + 1) := by
    have h1 : ls.take (k + 1) = ls.dropLast.take (k + 1) := by rw [List.dropLast_eq_take, List.take_take, Nat.min_eq_left hk]
    rw [h1, List.take_append_drop]
  rw [e]; exact srcsW_none H _
theorem srcs_end {ls : List (List UInt8)} {k : Nat} (hk : k = ls.length - 1) {l : List Src} (H : srcsW (ls.take k) = some l) : srcsW ls.dropLast = some l := by
  rw [List.dropLast_eq_take, ← hk]; exact H
theorem rcS_no {s : List UInt8} (h : ¬ ((splitF 10 [] s).getLast? = some [] ∧ (splitF 10 [] s).length ≤ 129)) : rcS s = ([], false) := by
  unfold rcS; rw [if_neg h]
theorem rcS_bad {s : List UInt8} (h : srcsW (splitF 10 [] s).dropLast = none) : rcS s = ([], false) := by
  unfold rcS; rw [h]; split <;> rfl
theorem rcS_some {s : List UInt8} (h : (splitF 10 [] s).getLast? = some [] ∧ (splitF 10 [] s).length ≤ 129) {l : List Src} (he : srcsW (splitF 10 [] s).dropLast = some l) : rcS s = if certOk l then (l, true) else ([], false) := by
  unfold rcS; rw [if_pos h, he]
theorem srcW_no {ws : List (List UInt8)} (h : ws.length < 2 ∨ 3 < ws.length) : srcW ws = none := by
  unfold srcW
  split
  · simp at h
  · simp at h
  · rfl
/-- the kind that the words ahead of K give -/
def kindUp (K : Nat) (w0 : List UInt8) : Int := if kindS w0 < (K : Int) then kindS w0 else 0
theorem kindS_bd (w0 : List UInt8) : 0 ≤ kindS w0 ∧ kindS w0 ≤ 4 := by
  by_cases h : kindS w0 = 0
  · omega
  · have := word_kind h; omega
theorem kindUp_one (w0 : List UInt8) : kindUp 1 w0 = 0 := by
  have := kindS_bd w0
  unfold kindUp; split <;> omega
theorem kindUp_end (w0 : List UInt8) : kindUp 5 w0 = kindS w0 := by
  have := kindS_bd w0
  unfold kindUp; split <;> omega
theorem kindUp_hit {K : Nat} {w0 : List UInt8} (h1 : 1 ≤ K ∧ K ≤ 4) (h : wordL K = w0) : kindUp (K + 1) w0 = K := by
  have hk := kind_word (k := K) (by omega)
  rw [Int.toNat_natCast, h] at hk
  unfold kindUp; rw [hk, if_pos (by omega)]
theorem kindUp_miss {K : Nat} {w0 : List UInt8} (h1 : 1 ≤ K ∧ K ≤ 4) (h : ¬ wordL K = w0) : kindUp (K + 1) w0 = kindUp K w0 := by
  have hb := kindS_bd w0
  have hne : kindS w0 ≠ K := fun e => h (by
    have := (word_kind (w := w0) (by omega)).1
    rw [e, Int.toNat_natCast] at this; exact this.symm)
  unfold kindUp
  split <;> split <;> omega
theorem words_r (w : World) : Calls Tryd.prog 25 #[] w fun e w' => e = .returned (.slice (some ⟨w.heap.size, 0, none⟩) 5 5) ∧ Below w.heap.size w w' ∧ w.heap.size < w'.heap.size ∧ ∀ k, k < 5 → w'.cell? ⟨w.heap.size, k, none⟩ = some (.string (strB (wordL k))) := by
  go_enter Tryd.func25, Tryd.ntmps25
  go_wp2
  go_ret
  refine ⟨rfl, Below.alloc (Below.refl _ _) (Nat.le_refl _) _, by simp, fun k hk => ?_⟩
  match k, hk with
  | 0, _ => simp; rfl
  | 1, _ => simp; rfl
  | 2, _ => simp; rfl
  | 3, _ => simp; rfl
  | 4, _ => simp; rfl
/-- a boxed source -/
def BoxS (w : World) (b : Nat) (x y z : Int) : Prop := w.heap[b]? = some (.cells #[.int .i64 x, .int .i64 y, .int .i64 z] 54 (0, 0))
theorem BoxS.below {w w' : World} {b : Nat} {x y z : Int} (h : BoxS w b x y z) (hb : Below w.heap.size w w') : BoxS w' b x y z := (hb.block b (Array.getElem?_eq_some_iff.1 h).1).trans h
theorem BoxS.c0 {w : World} {b : Nat} {x y z : Int} (h : BoxS w b x y z) : w.cell? ⟨b, 0, none⟩ = some (.int .i64 x) := by simp [World.cell?, show w.heap[b]? = _ from h]
theorem BoxS.c1 {w : World} {b : Nat} {x y z : Int} (h : BoxS w b x y z) : w.cell? ⟨b, 1, none⟩ = some (.int .i64 y) := by simp [World.cell?, show w.heap[b]? = _ from h]
theorem BoxS.c2 {w : World} {b : Nat} {x y z : Int} (h : BoxS w b x y z) : w.cell? ⟨b, 2, none⟩ = some (.int .i64 z) := by simp [World.cell?, show w.heap[b]? = _ from h]
theorem BoxS.fz {w : World} {b : Nat} {x y z : Int} (h : BoxS w b x y z) (j : Nat) : w.frozen? ⟨b, j, none⟩ = false := by simp [World.frozen?, show w.heap[b]? = _ from h]
theorem BoxS.set0 {w : World} {b : Nat} {x y z : Int} (h : BoxS w b x y z) (u : Int) : BoxS (w.setCell ⟨b, 0, none⟩ (.int .i64 u)) b u y z := by
  obtain ⟨hlt, hk⟩ := Array.getElem?_eq_some_iff.1 h
  show (w.heap.modify b _)[b]? = _
  rw [Array.getElem?_eq_getElem (by rw [Array.size_modify]; exact hlt), Array.getElem_modify_self, hk]
  rfl
theorem BoxS.set1 {w : World} {b : Nat} {x y z : Int} (h : BoxS w b x y z) (u : Int) : BoxS (w.setCell ⟨b, 1, none⟩ (.int .i64 u)) b x u z := by
  obtain ⟨hlt, hk⟩ := Array.getElem?_eq_some_iff.1 h
  show (w.heap.modify b _)[b]? = _
  rw [Array.getElem?_eq_getElem (by rw [Array.size_modify]; exact hlt), Array.getElem_modify_self, hk]
  rfl
theorem BoxS.set2 {w : World} {b : Nat} {x y z : Int} (h : BoxS w b x y z) (u : Int) : BoxS (w.setCell ⟨b, 2, none⟩ (.int .i64 u)) b x y u := by
  obtain ⟨hlt, hk⟩ := Array.getElem?_eq_some_iff.1 h
  show (w.heap.modify b _)[b]? = _
  rw [Array.getElem?_eq_getElem (by rw [Array.size_modify]; exact hlt), Array.getElem_modify_self, hk]
  rfl
theorem rcs_fail {w W : World} {s : ByteArray} {v0 : Value} (x0 : Boxed W w.heap.size 24 v0) (hB : Below w.heap.size w W) (h : rcS s.data.toList = ([], false)) :
    (W.setCell ⟨w.heap.size, 0, none⟩ (.slice none 0 0)).cell? ⟨w.heap.size, 0, none⟩ = some (.slice none 0 0) ∧ SrcL w.heap.size (W.setCell ⟨w.heap.size, 0, none⟩ (.slice none 0 0)) (.slice none 0 0) (rcS s.data.toList).1 ∧ Below w.heap.size w (W.setCell ⟨w.heap.size, 0, none⟩ (.slice none 0 0)) := by
  refine ⟨(Boxed.set _ x0).cell, ?_, hB.setCell (p := ⟨w.heap.size, 0, none⟩) (Nat.le_refl _) _⟩
  rw [h]; exact OwnL.of_nil
theorem rcs_app {w w6 w7 : World} {gl lm cl : Nat} {ls : List ByteArray} {src : Src} {acc : List Src} {v v7 : Value} {tmp : Obj}
    (hB : Below w.heap.size w w6) (hz : w.heap.size + 3 ≤ w6.heap.size) (X0 : Boxed w6 w.heap.size 24 (.slice none 0 0)) (X2 : Boxed w6 (w.heap.size + 1 + 1) 24 v)
    (HL : StringL (w.heap.size + 3) w6 (.slice (some ⟨gl, 0, none⟩) lm cl) ls) (HE : SrcL w.heap.size w6 v acc) (HG : ∀ g, v.ownBlock = some g → g ≠ gl) (hgl : gl < w6.heap.size)
    (how7 : SrcL w.heap.size w7 v7 (acc ++ [src])) (hg7 : (w6.alloc tmp).grownBy w7 v.ownBlock) (hvb : v7.ownBlock = v.ownBlock ∨ v7.ownBlock = some (w6.alloc tmp).heap.size) :
    Boxed w7 (w.heap.size + 1 + 1) 24 v ∧ ∀ W', W' = w7.setCell ⟨w.heap.size + 1 + 1, 0, none⟩ v7 → Below w.heap.size w W' ∧ w.heap.size + 3 ≤ W'.heap.size ∧ StringL (w.heap.size + 3) W' (.slice (some ⟨gl, 0, none⟩) lm cl) ls ∧ Boxed W' w.heap.size 24 (.slice none 0 0) ∧ Boxed W' (w.heap.size + 1 + 1) 24 v7 ∧ SrcL w.heap.size W' v7 (acc ++ [src]) ∧ ∀ g, v7.ownBlock = some g → g ≠ gl := by
  obtain ⟨e1, e2, e3, e4, e5⟩ := Boxed.appended X2 (by decide : 24 ≠ 54) HE (by omega) (by omega) how7 hg7
  refine ⟨e1, ?_⟩
  rintro W' rfl
  have hz7 := hg7.size
  simp at hz7
  have hnr := X0.not_row (by decide : 24 ≠ 54) HE
  have hL7 : StringL (w.heap.size + 3) w7 (.slice (some ⟨gl, 0, none⟩) lm cl) ls := OwnL.kept (HL.alloc _) hg7 (.inr (fun e => HG gl e.symm rfl))
  refine ⟨hB.trans e5, by simp; omega, ?_, boxed_far ((X0.alloc _).kept hg7 hnr) (by omega) _, e2, e3, ?_⟩
  · refine OwnL.kept hL7 (grownBy_setCell' w7 _ _) (.inr ?_)
    intro e
    have := (World.ownsRow.lt hL7 gl rfl).1
    simp [Value.ownBlock] at e
    omega
  · intro g hg
    rcases hvb with hv | hv
    · exact HG g (hv.symm.trans hg)
    · rw [hv] at hg; injection hg with hg; simp at hg; omega
set_option maxRecDepth 20000 in
set_option maxHeartbeats 40000000 in
theorem rcl_s (s : ByteArray) (w : World) (hs : s.size ≤ 1048576) :
    Calls Tryd.prog 6 #[.string s] w fun e w' => ∃ v, e = .returned (.tuple #[.agg #[v], .bool (rcS s.data.toList).2]) ∧ SrcL w.heap.size w' v (rcS s.data.toList).1 ∧ Below w.heap.size w w' := by
  have hsl : s.data.toList.length ≤ 1048576 := by rw [data_len]; exact hs
  have HS : Hid (∀ w1, Calls Tryd.prog 24 #[.string s, .int .u8 10] w1 fun e w' => ∃ v, e = .returned v ∧ StringL w1.heap.size w' v ((splitF 10 [] s.data.toList).map strB) ∧ Below w1.heap.size w1 w') := Lib.hid (fun w1 => split_s s 10 w1 hs)
  obtain ⟨i0, hi, hj0, hj1, hj2⟩ := info_parts Src.info
  have hlen := splitF_len 10 s.data.toList []
  have hne := splitF_ne 10 s.data.toList []
  have HNO := @rcS_no s.data.toList
  have HBAD := Lib.hid (@rcS_bad s.data.toList)
  have HSOME := fun h l he => @rcS_some s.data.toList h l he
  generalize hls : splitF 10 [] s.data.toList = ls at *
  have hl0 : 0 < ls.length := List.length_pos_iff.2 hne
  obtain ⟨lm, hlm⟩ : ∃ lm, ls.length = lm + 1 := ⟨ls.length - 1, by omega⟩
  obtain ⟨q, hq⟩ : ∃ q, ls[lm]? = some q := ⟨_, List.getElem?_eq_getElem (by omega)⟩
  have hgl : ls.getLast? = some q := by rw [List.getLast?_eq_getElem?, hlm, Nat.add_sub_cancel]; exact hq
  rw [hgl, hlm] at HNO
  simp only [hgl, hlm] at HSOME
  have HNO := Lib.hid HNO
  have HSOME := Lib.hid HSOME
  have hln : ls.length ≤ 1048577 := by have := hlen.2; omega
  have HLN := Lib.hid hlen
  clear hlen hls hgl hne
  go_enter Tryd.func6, Tryd.ntmps6
  go_wp2_with (fail)
  obtain ⟨W0, hW0⟩ : ∃ W0, (((w.alloc (.cells #[.slice none 0 0] 24)).alloc (.cells #[] 54)).alloc (.cells #[.slice (some ⟨w.heap.size + 1, 0, none⟩) 0 0] 24)) = W0 := ⟨_, rfl⟩
  have hz0 : W0.heap.size = w.heap.size + 3 := by rw [← hW0]; simp
  have hB0 : Below w.heap.size w W0 := by rw [← hW0]; exact Below.alloc (Below.alloc (Below.alloc (Below.refl _ _) (Nat.le_refl _) _) (by simp) _) (by simp; omega) _
  have X0 : Boxed W0 w.heap.size 24 (.slice none 0 0) := by rw [← hW0]; exact ((Boxed.new w _ _).alloc _).alloc _
  have X2 : Boxed W0 (w.heap.size + 1 + 1) 24 (.slice (some ⟨w.heap.size + 1, 0, none⟩) 0 0) := by
    have := Boxed.new ((w.alloc (.cells #[.slice none 0 0] 24)).alloc (.cells #[] 54)) 24 (.slice (some ⟨w.heap.size + 1, 0, none⟩) 0 0)
    simp only [World.size_alloc] at this
    rw [hW0] at this; exact this
  have HR0 : SrcL w.heap.size W0 (.slice (some ⟨w.heap.size + 1, 0, none⟩) 0 0) [] := by
    have h1 : SrcL (w.heap.size + 1) ((w.alloc (.cells #[.slice none 0 0] 24)).alloc (.cells #[] 54)) (.slice (some ⟨w.heap.size + 1, 0, none⟩) 0 0) [] := by
      have := OwnL.of_empty (f := Src.cells) (z := 3) (e := 54) (B := w.heap.size + 1) (w.alloc (.cells #[.slice none 0 0] 24)) (by simp)
      simpa using this
    rw [← hW0]; exact OwnL.base (h1.alloc _) (Nat.le_add_right _ 1)
  rw [hW0]
  clear hW0
  refine (HS.out _).mono ?_; rintro e w1 ⟨vl, rfl, hvl, hb1⟩
  obtain ⟨Al, cl, hvv, hAl⟩ := OwnL.shape hvl
  rw [List.length_map] at hvv
  subst hvv
  have hln0 : ls.map strB ≠ [] := by intro e; rw [List.map_eq_nil_iff] at e; rw [e] at hl0; simp at hl0
  obtain ⟨gl, rfl, hgl1, hgl2⟩ := hAl.resolve_left hln0
  have hbw : Below w.heap.size w w1 := hB0.trans (hb1.mono hB0.size)
  have hzw := hb1.size
  have HVL : Hid (StringL (w.heap.size + 3) w1 (.slice (some ⟨gl, 0, none⟩) (lm + 1) cl) (ls.map strB)) := Lib.hid (by rw [← hz0]; simpa [hlm] using hvl)
  simp only [hlm]
  have Y0 : Boxed w1 w.heap.size 24 (.slice none 0 0) := (hb1.block _ X0.lt).trans X0
  have Y2 : Boxed w1 (w.heap.size + 1 + 1) 24 (.slice (some ⟨w.heap.size + 1, 0, none⟩) 0 0) := (hb1.block _ X2.lt).trans X2
  have HR1 : Hid (SrcL w.heap.size w1 (.slice (some ⟨w.heap.size + 1, 0, none⟩) 0 0) []) := Lib.hid (OwnL.below HR0 hb1)
  have yc0 := Y0.cell
  have yf0 := Y0.frozen
  have hcq : w1.cell? ⟨gl, lm, none⟩ = some (.string (strB q)) := StringL.at_ HVL.out (by rw [List.length_map, hlm]) (by rw [List.getElem?_map, hq]; rfl)
  clear X0 X2 HR0 hvl hAl hln0
  by_cases hlast : q = []
  · have he : (strB q).toList.isEmpty = true := by
      rw [ByteArray.toList_eq, strB_list, hlast]; rfl
    have he2 : ((strB q).toList == []) = true := by
      rw [ByteArray.toList_eq, strB_list, hlast]; rfl
    by_cases h31 : lm + 1 ≤ 129
    · have HSO := Lib.hid (HSOME.out ⟨by rw [hlast], h31⟩)
      have HQ := Lib.hid hq
      have hglw : gl ≠ w.heap.size + 1 := by omega
      clear hlast hq HNO HSOME
      generalize strB q = sq at *
      go_wp2
      go_loopw [6] (fun i wr => ∃ k : Nat, k ≤ lm ∧ i = .int .i64 k ∧ Below w.heap.size w wr ∧ w.heap.size + 3 ≤ wr.heap.size ∧ Hid (StringL (w.heap.size + 3) wr (.slice (some ⟨gl, 0, none⟩) (lm + 1) cl) (ls.map strB)) ∧ Hid (Boxed wr w.heap.size 24 (.slice none 0 0)) ∧
        ∃ acc : List Src, ∃ A c, Hid (Boxed wr (w.heap.size + 1 + 1) 24 (.slice A k c)) ∧ Hid (acc.length = k) ∧ Hid (SrcL w.heap.size wr (.slice A k c) acc) ∧ Hid (∀ g, (Value.slice A k c).ownBlock = some g → g ≠ gl) ∧ Hid (srcsW (ls.take k) = some acc)) (fun i _ => lm - (intOf i).toNat)
      case atStart =>
        exact ⟨0, Nat.zero_le _, rfl, hbw, by omega, HVL, Lib.hid Y0, [], _, _, Lib.hid Y2, Lib.hid rfl, HR1, Lib.hid (by intro g h; simp [Value.ownBlock] at h; omega), Lib.hid rfl⟩
      case round =>
        clear HVL HR1 Y0 Y2 yc0 yf0 hcq
        obtain ⟨k, hk, rfl, hb, hz3, HL, HX0, acc, A, cc, HX2, HA, HE, HG, HW⟩ := hrel
        have zr := hb.size
        by_cases hlt : k < lm
        · obtain ⟨qk, hqk⟩ : ∃ q, ls[k]? = some q := ⟨_, List.getElem?_eq_getElem (by omega)⟩
          have hqs : qk.length ≤ 1048576 := by have := HLN.out.1 qk (List.mem_of_getElem? hqk); simp at this; omega
          have hcell : wr.cell? ⟨gl, k, none⟩ = some (.string (strB qk)) := StringL.at_ HL.out (by rw [List.length_map, hlm]) (by rw [List.getElem?_map, hqk]; rfl)
          have HSK : Hid (∀ w1, Calls Tryd.prog 24 #[.string (strB qk), .int .u8 32] w1 fun e w' => ∃ v, e = .returned v ∧ StringL w1.heap.size w' v ((splitF 32 [] qk).map strB) ∧ Below w1.heap.size w1 w') := Lib.hid (fun w1 => by
            have := split_s (strB qk) 32 w1 (by rw [strB_size]; exact hqs)
            rw [strB_list] at this; exact this)
          have HN := Lib.hid (srcs_next hqk HW.out)
          have hglr := (World.ownsRow.lt HL.out gl rfl).2
          have hwl := (splitF_len 32 qk []).1
          have hwne := splitF_ne 32 qk []
          generalize hws : splitF 32 [] qk = ws at *
          clear hws hqk
          generalize strB qk = sk at *
          go_wp2_with (fail)
          refine (HSK.out _).mono ?_; rintro e w2 ⟨v2, rfl, hv2, hb2⟩
          obtain ⟨A2, c2, hvv2, hA2⟩ := OwnL.shape hv2
          rw [List.length_map] at hvv2
          subst hvv2
          have hbw2 : Below w.heap.size w w2 := hb.trans (hb2.mono zr)
          have hz2 := hb2.size
          have HX02 : Hid (Boxed w2 w.heap.size 24 (.slice none 0 0)) := Lib.hid ((hb2.block _ (Boxed.lt HX0.out)).trans HX0.out)
          have HX22 : Hid (Boxed w2 (w.heap.size + 1 + 1) 24 (.slice A k cc)) := Lib.hid ((hb2.block _ (Boxed.lt HX2.out)).trans HX2.out)
          have HL2 := Lib.hid (OwnL.below HL.out hb2)
          have HE2 := Lib.hid (OwnL.below HE.out hb2)
          obtain ⟨g2, rfl, hg21, hg22⟩ := hA2.resolve_left (by intro e; rw [List.map_eq_nil_iff] at e; exact hwne e)
          obtain ⟨w0, wt, rfl⟩ : ∃ a t, ws = a :: t := by
            match ws, hwne with
            | a :: t, _ => exact ⟨a, t, rfl⟩
          have HV2 := Lib.hid hv2
          have y0 : w2.cell? ⟨g2, 0, none⟩ = some (.string (strB w0)) := StringL.at_ (l := (w0 :: wt).map strB) hv2 (by simp) rfl
          clear HX0 HX2 HL HE hcell hv2 hA2
          have hlen0 : (w0 :: wt).length = wt.length + 1 := rfl
          generalize hnw : (w0 :: wt).length = nw at *
          have HBX0 : Hid (BoxS (w2.alloc (.cells #[.int .i64 0, .int .i64 0, .int .i64 0] 54)) w2.heap.size (kindUp 1 w0) 0 0) := Lib.hid (by rw [kindUp_one]; exact World.alloc_heap_new w2 _)
          have hba : Below w2.heap.size w2 (w2.alloc (.cells #[.int .i64 0, .int .i64 0, .int .i64 0] 54)) := Below.alloc (Below.refl _ _) (Nat.le_refl _) _
          go_wp2
          go_loopw [9] (fun K wq => ∃ K' : Nat, 1 ≤ K' ∧ K' ≤ 5 ∧ K = .int .i64 K' ∧ Below w2.heap.size w2 wq ∧ Hid (BoxS wq w2.heap.size (kindUp K' w0) 0 0)) (fun K _ => 5 - (intOf K).toNat)
          case atStart => exact ⟨1, Nat.le_refl _, by omega, rfl, hba, HBX0⟩
          case round =>
            clear HBX0 hba
            obtain ⟨K, hK1, hK5, rfl, hbq, HBX⟩ := hrel
            have zq := hbq.size
            by_cases hK4 : K ≤ 4
            · have hKI : (K : Int) < 5 := by omega
              have hKn : K < 5 := by omega
              have hwt : (0 : Int) < (wt.length : Int) + 1 := by omega
              have HQ := str_eqb (wordL K) (strB w0)
              rw [strB_list] at HQ
              have y0q : wr.drew.cell? ⟨g2, 0, none⟩ = some (.string (strB w0)) := (hbq.cell (p := ⟨g2, 0, none⟩) hg22).trans y0
              have HWD := Lib.hid (words_r wr.drew)
              have HCM : Hid (∀ w3 : World, wr.drew.heap.size < w3.heap.size → (∀ k, k < 5 → w3.cell? ⟨wr.drew.heap.size, k, none⟩ = some (.string (strB (wordL k)))) → w3.cell? ⟨wr.heap.size, K, none⟩ = some (.string (strB (wordL K))) ∧ wr.heap.size < w3.heap.size) := Lib.hid (fun w3 h1 h2 => ⟨h2 K (by omega), h1⟩)
              have F3 : Hid (∀ w3, Below wr.drew.heap.size wr.drew w3 → w3.cell? ⟨g2, 0, none⟩ = some (.string (strB w0)) ∧ Below w2.heap.size w2 w3 ∧ BoxS w3 w2.heap.size (kindUp K w0) 0 0) := Lib.hid (fun w3 h3 => ⟨(h3.cell (p := ⟨g2, 0, none⟩) (by show g2 < wr.heap.size; omega)).trans y0q, hbq.drew.trans (h3.mono zq), (h3.block _ (Array.getElem?_eq_some_iff.1 HBX.out).1).trans HBX.out⟩)
              by_cases hw : wordL K = w0
              · have HU := Lib.hid (kindUp_hit ⟨hK1, hK4⟩ hw)
                rw [decide_eq_true hw] at HQ
                clear hw
                go_wp2_with (fail)
                go_region_law (go_simp; first | (go_at_call 25; refine HWD.out.mono ?_; rintro r w3 ⟨rfl, hb3, hz3, hc3⟩; obtain ⟨hcm, hzm⟩ := HCM.out w3 hz3 hc3; obtain ⟨r0, r1, r2⟩ := F3.out w3 hb3; clear hb3 hc3 hz3; dsimp only))
                all_goals have c0 := r2.c0
                all_goals have fz := r2.fz 0
                all_goals have HB2 := Lib.hid r2
                all_goals have HB1 := Lib.hid r1
                all_goals clear r0 r1 r2 hcm y0q HWD HCM F3
                all_goals go_wp2
                all_goals go_roundw
                all_goals first | exact ⟨K + 1, by omega, by omega, by go_num, HB1.out.setCell (p := ⟨w2.heap.size, 0, none⟩) (Nat.le_refl _) _, Lib.hid (by rw [HU.out]; exact HB2.out.set0 _)⟩ | (simp [intOf]; omega)
              · have HU := Lib.hid (kindUp_miss ⟨hK1, hK4⟩ hw)
                rw [decide_eq_false hw] at HQ
                clear hw
                go_wp2_with (fail)
                go_region_law (go_simp; first | (go_at_call 25; refine HWD.out.mono ?_; rintro r w3 ⟨rfl, hb3, hz3, hc3⟩; obtain ⟨hcm, hzm⟩ := HCM.out w3 hz3 hc3; obtain ⟨r0, r1, r2⟩ := F3.out w3 hb3; clear hb3 hc3 hz3; dsimp only))
                all_goals have HB2 := Lib.hid r2
                all_goals have HB1 := Lib.hid r1
                all_goals clear r0 r1 r2 hcm y0q HWD HCM F3
                all_goals go_wp2
                all_goals go_roundw
                all_goals first | exact ⟨K + 1, by omega, by omega, by go_num, HB1.out, Lib.hid (by rw [HU.out]; exact HB2.out)⟩ | (simp [intOf]; omega)
            · obtain rfl : K = 5 := by omega
              rw [kindUp_end] at HBX
              have hbw5 : Below w.heap.size w wr := hbw2.trans (hbq.mono hbw2.size)
              have HX05 : Hid (Boxed wr w.heap.size 24 (.slice none 0 0)) := Lib.hid ((hbq.block _ (Boxed.lt HX02.out)).trans HX02.out)
              have HX25 : Hid (Boxed wr (w.heap.size + 1 + 1) 24 (.slice A k cc)) := Lib.hid ((hbq.block _ (Boxed.lt HX22.out)).trans HX22.out)
              have xc0 := Boxed.cell HX05.out
              have xf0 := Boxed.frozen HX05.out
              have hk4 := kindS_bd w0
              have kc0 := HBX.out.c0
              have BAD := Lib.hid (fun (h : srcW (w0 :: wt) = none) => HBAD.out (srcs_bad (ls := ls) (k := k) (by omega) (by rw [HN.out, h]; rfl)))
              by_cases hlen : wt.length + 1 < 2 ∨ 3 < wt.length + 1
              · have HF := Lib.hid (BAD.out (srcW_no (by simpa using hlen)))
                clear hwl
                generalize wt.length = wl at *
                rcases hlen with hlen | hlen
                · have d1 : decide ((wl : Int) + 1 < 2) = true := decide_eq_true (by omega)
                  go_wp2
                  obtain ⟨f1, f2, f3⟩ := rcs_fail (s := s) HX05.out hbw5 HF.out
                  exact bodyPost_ret (v := .tuple #[.agg #[.slice none 0 0], .bool false]) (by simp [results, Tryd.results6, go_sem, f1]) rfl ⟨_, by rw [HF.out], f2, f3⟩
                · have d1 : decide ((wl : Int) + 1 < 2) = false := decide_eq_false (by omega)
                  have d2 : decide (3 < (wl : Int) + 1) = true := decide_eq_true (by omega)
                  go_wp2
                  obtain ⟨f1, f2, f3⟩ := rcs_fail (s := s) HX05.out hbw5 HF.out
                  exact bodyPost_ret (v := .tuple #[.agg #[.slice none 0 0], .bool false]) (by simp [results, Tryd.results6, go_sem, f1]) rfl ⟨_, by rw [HF.out], f2, f3⟩
              · have hwt2 : (∃ a, wt = [a]) ∨ ∃ a b, wt = [a, b] := by
                  match wt, hlen with
                  | [], h => simp at h
                  | [a], _ => exact .inl ⟨a, rfl⟩
                  | [a, b], _ => exact .inr ⟨a, b, rfl⟩
                  | a :: b :: c :: r, h => simp at h
                rcases hwt2 with ⟨a, rfl⟩ | ⟨a, b, rfl⟩
                · have hl2 : [a].length + 1 = 2 := rfl
                  simp only [hl2] at *
                  by_cases hk1 : kindS w0 = 1
                  · have HF := Lib.hid (BAD.out (by rw [srcW, if_pos hk1]))
                    rw [hk1] at HBX kc0
                    clear hwl hk1
                    go_wp2
                    obtain ⟨f1, f2, f3⟩ := rcs_fail (s := s) HX05.out hbw5 HF.out
                    exact bodyPost_ret (v := .tuple #[.agg #[.slice none 0 0], .bool false]) (by simp [results, Tryd.results6, go_sem, f1]) rfl ⟨_, by rw [HF.out], f2, f3⟩
                  · have hsrc : srcW [w0, a] = some ⟨kindS w0, numS a, 0⟩ := by rw [srcW, if_neg hk1]
                    have num : ∀ p : List UInt8, p ∈ [w0, a] → Hid (∀ W, Calls Tryd.prog 26 #[.string (strB p)] W fun e w' => e = .returned (.int .i64 (numS p)) ∧ W = w') := fun p hp => Lib.hid (fun W => by
                      have := number_s (strB p) W (by rw [strB_size]; have := hwl p hp; simp at this; omega)
                      rw [strB_list] at this
                      exact this)
                    have N1 := num a (by simp)
                    have N2 := N1
                    have ya : wr.cell? ⟨g2, 1, none⟩ = some (.string (strB a)) := (hbq.cell (p := ⟨g2, 1, none⟩) hg22).trans (StringL.at_ (l := [w0, a].map strB) HV2.out (by rw [← hnw]; rfl) rfl)
                    have HN2 : Hid (srcsW (ls.take (k + 1)) = some (acc ++ [⟨kindS w0, numS a, 0⟩])) := Lib.hid (by rw [HN.out, hsrc]; rfl)
                    have hkb : (kindS w0 == 1) = false := by rw [beq_eq_false_iff_ne]; exact hk1
                    generalize kindS w0 = kd at *
                    clear hwl hk1 num hsrc HN
                    have fz1 := HBX.out.fz 1
                    have fz2 := HBX.out.fz 2
                    have c1 := HBX.out.c1
                    have c2' := HBX.out.c2
                    have hac := HA.out
                    have QB := HBX.out.set1 (numS a)
                    have hQ : Below w2.heap.size w2 (wr.setCell ⟨w2.heap.size, 1, none⟩ (.int .i64 (numS a))) := hbq.setCell (p := ⟨w2.heap.size, 1, none⟩) (Nat.le_refl _) _
                    clear xc0 xf0
                    go_upto_region 20 with (go_at_call 26; refine (N1.out _).mono ?_; rintro e w7 ⟨rfl, rfl⟩)
                    generalize (wr.setCell ⟨w2.heap.size, 1, none⟩ (.int .i64 (numS a))) = w6 at *
                    have hbw6 : Below w.heap.size w w6 := hbw2.trans (hQ.mono hbw2.size)
                    have z6 := hQ.size
                    have X06 : Boxed w6 w.heap.size 24 (.slice none 0 0) := (hQ.block _ (Boxed.lt HX02.out)).trans HX02.out
                    have X26 : Boxed w6 (w.heap.size + 1 + 1) 24 (.slice A k cc) := (hQ.block _ (Boxed.lt HX22.out)).trans HX22.out
                    have HL6 := Lib.hid (OwnL.below HL2.out hQ)
                    have HE6 := Lib.hid (OwnL.below HE2.out hQ)
                    have d0 := QB.c0
                    have d1 := QB.c1
                    have d2 := QB.c2
                    have e26 := Boxed.cell X26
                    have g26 := Boxed.frozen X26
                    have hgl6 : gl < w6.heap.size := by omega
                    clear HBX fz1 fz2 c1 c2' kc0 HX05 HX25 ya
                    go_wp2_with (at_builtin; refine stopR ?_)
                    intro _
                    refine wpList_app1at Src.cells 3 Src.len _ rfl _ _ _ rfl w.heap.size 54 i0 (.agg #[.int .i64 0, .int .i64 0, .int .i64 0]) 24 Tryd.underlying22 hi hj0 hj1 hj2 rfl (by decide) (.slice A k cc) acc rfl (HE6.out.alloc _) w6.heap.size 1 ⟨kd, numS a, 0⟩ rfl ?cells (srcR_one _) (by omega) (by omega) (by simp; omega) ?_
                    case cells => exact srcR_cells rfl
                    intro v7 w7 how7 hg7 hvb
                    obtain ⟨e1, e2⟩ := rcs_app hbw6 (by omega) X06 X26 HL6.out HE6.out HG.out hgl6 how7 hg7 hvb
                    obtain ⟨A7, c7, rfl, _⟩ := OwnL.shape how7
                    generalize hl7 : (acc ++ [(⟨kd, numS a, 0⟩ : Src)]).length = n7 at *
                    obtain rfl : n7 = k + 1 := by rw [← hl7]; simp [hac]
                    have HF := Lib.hid e2
                    have HL7 := Lib.hid hl7
                    have xc7 := Boxed.cell e1
                    have xf7 := Boxed.frozen e1
                    clear how7 hg7 hvb e1 e2 hl7 e26 g26
                    go_wp2
                    go_roundw
                    case rel =>
                      obtain ⟨q1, q2, q3, q4, q5, q6, q7⟩ := HF.out _ rfl
                      exact ⟨k + 1, by omega, by go_num, q1, q2, Lib.hid q3, Lib.hid q4, _, A7, c7, Lib.hid q5, HL7, Lib.hid q6, Lib.hid q7, HN2⟩
                    case measure => simp [intOf]; omega
                · have hl3 : [a, b].length + 1 = 3 := rfl
                  simp only [hl3] at *
                  by_cases hk1 : kindS w0 = 1
                  · have hsrc : srcW [w0, a, b] = some ⟨1, numS a, numS b⟩ := by rw [srcW, if_pos hk1]
                    have num : ∀ p : List UInt8, p ∈ [w0, a, b] → Hid (∀ W, Calls Tryd.prog 26 #[.string (strB p)] W fun e w' => e = .returned (.int .i64 (numS p)) ∧ W = w') := fun p hp => Lib.hid (fun W => by
                      have := number_s (strB p) W (by rw [strB_size]; have := hwl p hp; simp at this; omega)
                      rw [strB_list] at this
                      exact this)
                    have N1 := num a (by simp)
                    have N2 := num b (by simp)
                    have ya : wr.cell? ⟨g2, 1, none⟩ = some (.string (strB a)) := (hbq.cell (p := ⟨g2, 1, none⟩) hg22).trans (StringL.at_ (l := [w0, a, b].map strB) HV2.out (by rw [← hnw]; rfl) rfl)
                    have yb : wr.cell? ⟨g2, 2, none⟩ = some (.string (strB b)) := (hbq.cell (p := ⟨g2, 2, none⟩) hg22).trans (StringL.at_ (l := [w0, a, b].map strB) HV2.out (by rw [← hnw]; rfl) rfl)
                    have hg2w : g2 ≠ w2.heap.size := by have : g2 < w2.heap.size := hg22; omega
                    have yb1 : (wr.setCell ⟨w2.heap.size, 1, none⟩ (.int .i64 (numS a))).cell? ⟨g2, 2, none⟩ = some (.string (strB b)) := by rw [World.cell?_setCell_other _ _ _ _ (by intro e; injection e with e _ _; exact hg2w e.symm)]; exact yb
                    have HN2 : Hid (srcsW (ls.take (k + 1)) = some (acc ++ [⟨1, numS a, numS b⟩])) := Lib.hid (by rw [HN.out, hsrc]; rfl)
                    rw [hk1] at HBX kc0
                    clear hwl hk1 num hsrc HN yb
                    have fz1 := HBX.out.fz 1
                    have fz2 := HBX.out.fz 2
                    have c1 := HBX.out.c1
                    have c2' := HBX.out.c2
                    have hac := HA.out
                    have QB := (HBX.out.set1 (numS a)).set2 (numS b)
                    have hQ : Below w2.heap.size w2 ((wr.setCell ⟨w2.heap.size, 1, none⟩ (.int .i64 (numS a))).setCell ⟨w2.heap.size, 2, none⟩ (.int .i64 (numS b))) := (hbq.setCell (p := ⟨w2.heap.size, 1, none⟩) (Nat.le_refl _) _).setCell (p := ⟨w2.heap.size, 2, none⟩) (Nat.le_refl _) _
                    clear xc0 xf0
                    go_upto_region 18 with (go_at_call 26; refine (N1.out _).mono ?_; rintro e w7 ⟨rfl, rfl⟩)
                    go_upto_region 20 with (go_at_call 26; refine (N2.out _).mono ?_; rintro e w7 ⟨rfl, rfl⟩)
                    generalize ((wr.setCell ⟨w2.heap.size, 1, none⟩ (.int .i64 (numS a))).setCell ⟨w2.heap.size, 2, none⟩ (.int .i64 (numS b))) = w6 at *
                    have hbw6 : Below w.heap.size w w6 := hbw2.trans (hQ.mono hbw2.size)
                    have z6 := hQ.size
                    have X06 : Boxed w6 w.heap.size 24 (.slice none 0 0) := (hQ.block _ (Boxed.lt HX02.out)).trans HX02.out
                    have X26 : Boxed w6 (w.heap.size + 1 + 1) 24 (.slice A k cc) := (hQ.block _ (Boxed.lt HX22.out)).trans HX22.out
                    have HL6 := Lib.hid (OwnL.below HL2.out hQ)
                    have HE6 := Lib.hid (OwnL.below HE2.out hQ)
                    have d0 := QB.c0
                    have d1 := QB.c1
                    have d2 := QB.c2
                    have e26 := Boxed.cell X26
                    have g26 := Boxed.frozen X26
                    have hgl6 : gl < w6.heap.size := by omega
                    clear HBX fz1 fz2 c1 c2' kc0 HX05 HX25 ya
                    go_wp2_with (at_builtin; refine stopR ?_)
                    intro _
                    refine wpList_app1at Src.cells 3 Src.len _ rfl _ _ _ rfl w.heap.size 54 i0 (.agg #[.int .i64 0, .int .i64 0, .int .i64 0]) 24 Tryd.underlying22 hi hj0 hj1 hj2 rfl (by decide) (.slice A k cc) acc rfl (HE6.out.alloc _) w6.heap.size 1 ⟨1, numS a, numS b⟩ rfl ?cells (srcR_one _) (by omega) (by omega) (by simp; omega) ?_
                    case cells => exact srcR_cells rfl
                    intro v7 w7 how7 hg7 hvb
                    obtain ⟨e1, e2⟩ := rcs_app hbw6 (by omega) X06 X26 HL6.out HE6.out HG.out hgl6 how7 hg7 hvb
                    obtain ⟨A7, c7, rfl, _⟩ := OwnL.shape how7
                    generalize hl7 : (acc ++ [(⟨1, numS a, numS b⟩ : Src)]).length = n7 at *
                    obtain rfl : n7 = k + 1 := by rw [← hl7]; simp [hac]
                    have HF := Lib.hid e2
                    have HL7 := Lib.hid hl7
                    have xc7 := Boxed.cell e1
                    have xf7 := Boxed.frozen e1
                    clear how7 hg7 hvb e1 e2 hl7 e26 g26
                    go_wp2
                    go_roundw
                    case rel =>
                      obtain ⟨q1, q2, q3, q4, q5, q6, q7⟩ := HF.out _ rfl
                      exact ⟨k + 1, by omega, by go_num, q1, q2, Lib.hid q3, Lib.hid q4, _, A7, c7, Lib.hid q5, HL7, Lib.hid q6, Lib.hid q7, HN2⟩
                    case measure => simp [intOf]; omega
                  · have HF := Lib.hid (BAD.out (by rw [srcW, if_neg hk1]))
                    have hkb : (kindS w0 == 1) = false := by rw [beq_eq_false_iff_ne]; exact hk1
                    generalize kindS w0 = kd at *
                    clear hwl hk1
                    go_wp2
                    obtain ⟨f1, f2, f3⟩ := rcs_fail (s := s) HX05.out hbw5 HF.out
                    exact bodyPost_ret (v := .tuple #[.agg #[.slice none 0 0], .bool false]) (by simp [results, Tryd.results6, go_sem, f1]) rfl ⟨_, by rw [HF.out], f2, f3⟩
        · obtain rfl : k = lm := by omega
          have h1 := HSO.out _ (srcs_end (by omega) HW.out)
          have hac := HA.out
          have xc0 := Boxed.cell HX0.out
          have xf0 := Boxed.frozen HX0.out
          have xc2 := Boxed.cell HX2.out
          have HCP := Lib.hid (certp_s (w.heap.size + 1 + 1) cc A acc wr (by rw [hac]; exact xc2) (by
            obtain ⟨A', c', e1, hA'⟩ := OwnL.shape HE.out
            injection e1 with e1 _ e3
            subst e1
            rcases hA' with h | ⟨g, rfl, _, hg⟩
            · exact .inl h
            · exact .inr ⟨g, rfl, hg, fun k' s' j u h2 h3 => by
                have := OwnL.at1 (j := j) Src.len HE.out h2 h3
                exact this⟩) (by omega))
          cases hlo : certOk acc
          · rw [hlo] at HCP h1
            have HF := Lib.hid (h1.trans (if_neg (by decide)))
            clear h1
            go_wp2_with (fail)
            refine HCP.out.mono ?_; rintro e w5 ⟨rfl, hb5⟩
            have hbw5 : Below w.heap.size w w5 := hb.trans (hb5.mono zr)
            have HX05 : Hid (Boxed w5 w.heap.size 24 (.slice none 0 0)) := Lib.hid ((hb5.block _ (Boxed.lt HX0.out)).trans HX0.out)
            have uc0 := Boxed.cell HX05.out
            have uf0 := Boxed.frozen HX05.out
            clear xc0 xf0 xc2
            go_wp2
            obtain ⟨f1, f2, f3⟩ := rcs_fail (s := s) HX05.out hbw5 HF.out
            exact bodyPost_ret (v := .tuple #[.agg #[.slice none 0 0], .bool false]) (by simp [results, Tryd.results6, go_sem, f1]) rfl ⟨_, by rw [HF.out], f2, f3⟩
          · rw [hlo] at HCP h1
            have HF := Lib.hid (h1.trans (if_pos rfl))
            clear h1
            go_wp2_with (fail)
            refine HCP.out.mono ?_; rintro e w5 ⟨rfl, hb5⟩
            have hbw5 : Below w.heap.size w w5 := hb.trans (hb5.mono zr)
            have HX05 : Hid (Boxed w5 w.heap.size 24 (.slice none 0 0)) := Lib.hid ((hb5.block _ (Boxed.lt HX0.out)).trans HX0.out)
            have HX25 : Hid (Boxed w5 (w.heap.size + 1 + 1) 24 (.slice A k cc)) := Lib.hid ((hb5.block _ (Boxed.lt HX2.out)).trans HX2.out)
            have HE5 := Lib.hid (OwnL.below HE.out hb5)
            have uc0 := Boxed.cell HX05.out
            have uf0 := Boxed.frozen HX05.out
            have uc2 := Boxed.cell HX25.out
            clear xc0 xf0 xc2
            go_wp2
            have f1 : (w5.setCell ⟨w.heap.size, 0, none⟩ (.slice A k cc)).cell? ⟨w.heap.size, 0, none⟩ = some (.slice A k cc) := Boxed.cell (Boxed.set _ HX05.out)
            refine bodyPost_ret (v := .tuple #[.agg #[.slice A k cc], .bool true]) ?_ rfl ⟨_, by rw [HF.out], ?_, hbw5.setCell (p := ⟨w.heap.size, 0, none⟩) (Nat.le_refl _) _⟩
            · simp [results, Tryd.results6, go_sem, f1]
            · rw [HF.out]
              refine OwnL.kept HE5.out (grownBy_setCell' w5 _ _) ?_
              cases e : (Value.slice A k cc).ownBlock with
              | none => exact .inl rfl
              | some q => exact .inr (by intro e6; exact Boxed.not_row HX05.out (by decide : 24 ≠ 54) HE5.out (e6.symm.trans e.symm))
    · have HF := Lib.hid (HNO.out (by rintro ⟨_, h⟩; exact h31 h))
      clear hlast
      generalize strB q = sq at *
      go_wp2
      obtain ⟨f1, f2, f3⟩ := rcs_fail (s := s) Y0 hbw HF.out
      exact bodyPost_ret (v := .tuple #[.agg #[.slice none 0 0], .bool false]) (by simp [results, Tryd.results6, go_sem, f1]) rfl ⟨_, by rw [HF.out], f2, f3⟩
  · have he : (strB q).toList.isEmpty = false := by
      rw [ByteArray.toList_eq, strB_list, List.isEmpty_eq_false_iff]; exact hlast
    have he2 : ((strB q).toList == []) = false := by
      rw [ByteArray.toList_eq, strB_list, Bool.eq_false_iff]
      intro e
      exact hlast (eq_of_beq e)
    have HF := Lib.hid (HNO.out (by rintro ⟨h, _⟩; exact hlast (Option.some.inj h)))
    go_wp2
    obtain ⟨f1, f2, f3⟩ := rcs_fail (s := s) Y0 hbw HF.out
    exact bodyPost_ret (v := .tuple #[.agg #[.slice none 0 0], .bool false]) (by simp [results, Tryd.results6, go_sem, f1]) rfl ⟨_, by rw [HF.out], f2, f3⟩
end Go.Proofs.YtkpjjohanbiagaaDoor
