/- The reference's drawn strings and ledgers: the walks. -/
import Derived.Test.YtkpjjohanbiagaaDoorDrawB
import Derived.Test.YtkpjjohanbiagaaDoorHString
import Derived.Test.YtkpjjohanbiagaaDoorJnO
import Derived.Deep.Cut
namespace Go.Proofs.YtkpjjohanbiagaaDoor
set_option linter.unusedVariables false
set_option linter.unusedSimpArgs false
open Go.RowKit
/-- the world behind a draw that made new blocks -/
def DrNew (g : Nat) (A : Option Addr) (n c a m : Nat) (w w' : World) : Prop := ∃ a', a ≤ a' ∧ a' ≤ a + m ∧ DrAt w' g A n c a' ∧ Chg g (g + 1) w w'
theorem own_slice {α : Type} {f : α → List Value} {z : Nat} {e : TypeId} {B : Nat} {w : World} {v : Value} {l : List α} (h : OwnL f z e B w v l) : ∃ A n c, v = .slice A n c := by
  obtain ⟨A, c, h1, _⟩ := OwnL.shape h
  exact ⟨_, _, _, h1⟩
theorem OwnL.chgIn {α : Type} {f : α → List Value} {z : Nat} {e : TypeId} {B B' E' : Nat} {w w' : World} {v : Value} {l : List α} (h : OwnL f z e B w v l) (hc : Chg B' E' w w') (hd : E' ≤ B) : OwnL f z e B w' v l :=
  OwnL.blk h (fun q hq => hc.block q (World.ownsRow.lt h q hq).2 (by have := (World.ownsRow.lt h q hq).1; omega))
set_option maxHeartbeats 1000000 in
theorem text_s (g : Nat) (A : Option Addr) (n c a : Nat) (gl cl : Nat) (l : List ByteArray) (w : World) (h : DrAt w g A n c a) (hn : n ≤ 1048576) (ha : a ≤ 1099511627775) (hl : 0 < l.length) (hl2 : l.length ≤ 1048576) (hgl : g < gl) (hgw : gl < w.heap.size) (hc : ∀ j x, l[j]? = some x → w.cell? ⟨gl, j, none⟩ = some (.string x)) :
    Calls Tryd.prog 45 #[.pointer (some ⟨g, 0, none⟩), .slice (some ⟨gl, 0, none⟩) l.length cl] w fun e w' => ∃ x : ByteArray, x ∈ l ∧ e = .returned (.string x) ∧ DrPost g A n c a 2 w w' := by
  have HC := Lib.hid hc
  clear hc
  go_enter Tryd.func45, Tryd.ntmps45
  go_wp2_with (fail)
  refine (pick_s g A n c a l.length _ h hn ha hl2).mono ?_; rintro e w1 ⟨r, hr, rfl, hp⟩
  have hrl : r < l.length := by omega
  obtain ⟨x, hx⟩ : ∃ x, l[r]? = some x := ⟨l[r], List.getElem?_eq_getElem hrl⟩
  obtain ⟨a', ha1, ha2, hd, hch, hsz⟩ := hp
  have px := (World.cell?_of_block (a := ⟨gl, r, none⟩) (hch.block gl hgw (by omega))).trans (HC.out r x hx)
  have HX := Lib.hid (List.mem_of_getElem? hx)
  clear hx hr
  go_wp2
  go_ret
  exact ⟨x, HX.out, rfl, a', ha1, ha2, hd, hch, hsz⟩
theorem wrap8 (z : Int) : ∃ b : Nat, b < 256 ∧ IntKind.u8.wrap z = (b : Int) := ⟨(z % 256).toNat, by omega, by rw [IntKind.wrap_u8]; omega⟩
set_option maxRecDepth 20000 in
set_option maxHeartbeats 4000000 in
theorem ldraw_s (g : Nat) (A : Option Addr) (n c a m : Nat) (w : World) (h : DrAt w g A n c a) (hn : n ≤ 1048576) (ha : a ≤ 1073741824) (hm : m ≤ 16) :
    Calls Tryd.prog 44 #[.pointer (some ⟨g, 0, none⟩), .int .i64 m] w fun e w' => ∃ s : ByteArray, e = .returned (.string s) ∧ s.size ≤ 16 ∧ DrNew g A n c a 70 w w' := by
  obtain ⟨i1, ji, jz0, jz1, jz2⟩ := info_parts ucell_info
  have hgw := h.lt
  have HO0 : Hid (BytesL w.heap.size (w.alloc (.cells #[] 5)) (.slice (some ⟨w.heap.size, 0, none⟩) 0 0) []) := Lib.hid (OwnL.of_empty w (Nat.le_refl _))
  have D0 := h.alloc (.cells #[] 5)
  have C0 : Chg g (g + 1) w (w.alloc (.cells #[] 5)) := (Chg.of_below (Below.refl _ _)).alloc _
  clear h
  go_enter Tryd.func44, Tryd.ntmps44
  go_wp2_with (fail)
  rw [show ((m : Int) + 1) = ((m + 1 : Nat) : Int) by omega]
  refine (pick_s g A n c a (m + 1) _ D0 hn (by omega) (by omega)).mono ?_; rintro e w1 ⟨r, hr, rfl, a1, h11, h12, D1, C1, S1⟩
  have hr16 : r ≤ 16 := by omega
  have HO1 := Lib.hid (OwnL.chgIn HO0.out C1 (by omega))
  have HC1 := Lib.hid (C0.trans C1)
  have HD1 := Lib.hid D1
  clear D0 C0 C1 S1 HO0 D1 hr
  go_wp2_with (fail)
  go_loopw [6, 5] (fun i out wx => ∃ (k a' : Nat) (bl : List Nat), i = .int .i64 k ∧ k ≤ r ∧ Hid (∃ gx cx, out = .slice (some ⟨gx, 0, none⟩) bl.length cx) ∧ Hid (bl.length + k = r) ∧ a1 ≤ a' ∧ a' + 4 * k ≤ a1 + 4 * r ∧ Hid (DrAt wx g A n c a') ∧ Hid (Chg g (g + 1) w wx) ∧ Hid (BytesL w.heap.size wx out bl)) (fun i _ _ => (intOf i).toNat)
  case atStart => exact ⟨r, a1, [], rfl, Nat.le_refl _, Lib.hid ⟨_, _, rfl⟩, Lib.hid (by simp), Nat.le_refl _, by omega, HD1, HC1, HO1⟩
  case round =>
    clear HO1 HC1 HD1
    obtain ⟨k, a2, bl, rfl, hk, HV, HL, ha1, ha2, HD, HC, HO⟩ := hrel
    have hzr := HC.out.size
    have hgr := HD.out.lt
    by_cases hk0 : 0 < k
    · have DA := HD.out.alloc (.cells #[.int .i64 0, .int .i64 1, .int .i64 65, .int .i64 78, .int .i64 161, .int .i64 255, .int .i64 229, .int .i64 16] 2)
      have HCA := Lib.hid (HC.out.alloc (.cells #[.int .i64 0, .int .i64 1, .int .i64 65, .int .i64 78, .int .i64 161, .int .i64 255, .int .i64 229, .int .i64 16] 2))
      have HOA := Lib.hid (OwnL.alloc HO.out (.cells #[.int .i64 0, .int .i64 1, .int .i64 65, .int .i64 78, .int .i64 161, .int .i64 255, .int .i64 229, .int .i64 16] 2))
      have hl1 : bl.length + 1 ≤ 16777216 := by have := HL.out; omega
      go_wp2_with (fail)
      refine (among_s g A n c a2 wr.heap.size 8 [0, 1, 65, 78, 161, 255, 229, 16] _ DA hn (by omega) (by simp) (by simp) hgr (by simp) ?_).mono ?_
      · intro j x hj
        match j, hj with
        | 0, hj => simp at hj; subst hj; simp
        | 1, hj => simp at hj; subst hj; simp
        | 2, hj => simp at hj; subst hj; simp
        | 3, hj => simp at hj; subst hj; simp
        | 4, hj => simp at hj; subst hj; simp
        | 5, hj => simp at hj; subst hj; simp
        | 6, hj => simp at hj; subst hj; simp
        | 7, hj => simp at hj; subst hj; simp
        | j + 8, hj => simp at hj
      rintro e w3 ⟨x, hx, rfl, a3, h31, h32, D3, C3, S3⟩
      have hx1 : 0 ≤ x ∧ x ≤ 255 := by simp at hx; omega
      have HC3 := Lib.hid (HCA.out.trans C3)
      have HO3 := Lib.hid (OwnL.chgIn HOA.out C3 (by omega))
      have z3 : w.heap.size ≤ w3.heap.size := HC3.out.size
      clear hx DA HCA HOA C3 S3
      go_wp2_with (fail)
      refine (pick_s g A n c a3 3 _ D3 hn (by omega) (by omega)).mono ?_; rintro e w4 ⟨r4, hr4, rfl, a4, h41, h42, D4, C4, S4⟩
      have hr4b : (r4 : Int) ≤ 2 := by omega
      obtain ⟨b, hb, eb⟩ := wrap8 (x + (r4 : Int))
      have HC4 := Lib.hid (HC3.out.trans C4)
      have HO4 := Lib.hid (OwnL.chgIn HO3.out C4 (by omega))
      have z4 : w.heap.size ≤ w4.heap.size := HC4.out.size
      have hbase : w.heap.size ≤ (w4.alloc (.cells #[.int .u8 (b : Int)] 5)).heap.size := by simp; omega
      have HD4 := Lib.hid (D4.alloc (.cells #[.int .u8 (b : Int)] 5))
      have hlo := World.ownsRow.lt HO4.out
      clear D3 HC3 HO3 C4 S4 D4
      go_wp2_with (at_builtin; refine wpList_app1 ucell 1 ucell_len _ rfl _ _ _ rfl w.heap.size 5 i1 (.int .u8 0) 1 Tryd.underlying35 ji jz0 jz1 jz2 rfl (by decide) _ bl rfl (HO4.out.alloc _) _ 1 b rfl ?_ (by simp [ucell, Value.oneCell']) hl1 (by decide) hbase ?_; (· intro j u hu; cases j with | zero => (simp [ucell] at hu; subst hu; simp) | succ j => simp [ucell] at hu); intro v5 w5 how5 hg5)
      go_roundw
      case rel => exact ⟨k - 1, a4, bl ++ [b], by go_num, by omega, Lib.hid (by
        obtain ⟨A5, c5, e5, h5⟩ := OwnL.shape how5
        obtain ⟨g5, e6, _⟩ := h5.resolve_left (by simp)
        exact ⟨g5, c5, by rw [e5, e6]⟩), Lib.hid (by have := HL.out; simp; omega), by omega, by omega, Lib.hid (HD4.out.grown hg5 (fun q hq => by have := (hlo q hq).1; omega)), Lib.hid ((HC4.out.alloc _).grown hg5 (fun q hq => (hlo q hq).1)), Lib.hid how5⟩
      case measure => simp [intOf]; omega
    · obtain rfl : k = 0 := by omega
      have hbl : bl.length = r := by have := HL.out; omega
      obtain ⟨gb, cb, hv⟩ := HV.out
      subst hv
      have hst : ∃ s : ByteArray, s.size ≤ 16 ∧ (convert 35 9 (.slice (some ⟨gb, 0, none⟩) bl.length cb)).run Tryd.prog wr = .ok (.string s) wr := ⟨_, by rw [strN_size]; omega, (BytesL.buf HO.out rfl).str rfl⟩
      obtain ⟨s, hs, hst⟩ := hst
      have ha2' : a ≤ a2 ∧ a2 ≤ a + 70 := by omega
      clear hbl
      go_wp2
      go_ret
      exact ⟨s, rfl, hs, a2, by omega, by omega, HD.out, HC.out⟩
end Go.Proofs.YtkpjjohanbiagaaDoor
