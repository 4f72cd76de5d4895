/- The reference's drawn ledgers: the walks. -/
import Derived.Test.YtkpjjohanbiagaaDoorJnD
namespace Go.Proofs.YtkpjjohanbiagaaDoor
set_option linter.unusedVariables false
set_option linter.unusedSimpArgs false
open Go.RowKit
/-- a drawn list of entries -/
structure LgK (l : List Ent) : Prop where
  len : l.length ≤ 30
  vb : ∀ e ∈ l, e.verb.size ≤ 16
  lc : 0 ≤ lastC l ∧ lastC l ≤ 65535
  ch : ∀ e ∈ l, 0 ≤ e.chain ∧ e.chain ≤ 65535
theorem LgK.nil : LgK [] := ⟨by simp, by simp, by simp [lastC], by simp⟩
theorem LgK.next {l : List Ent} {s : ByteArray} {b a : Int} (h : LgK l) (hl : l.length < 30) (hs : s.size ≤ 16) : LgK (l ++ [nextE l s b a]) :=
  ⟨by simp; omega, fun e he => by
    rcases List.mem_append.1 he with he | he
    · exact h.vb e he
    · obtain rfl : e = nextE l s b a := by simpa using he
      exact hs, by rw [lastC_app]; exact chainI_bd _ _ _ _, fun e he => by
    rcases List.mem_append.1 he with he | he
    · exact h.ch e he
    · obtain rfl : e = nextE l s b a := by simpa using he
      exact chainI_bd _ _ _ _⟩
def lenOf : Value → Nat
  | .slice _ n _ => n
  | _ => 0
set_option maxRecDepth 20000 in
set_option maxHeartbeats 8000000 in
theorem ldr_s (g : Nat) (A : Option Addr) (n c a : Nat) (w : World) (h : DrAt w g A n c a) (hn : n ≤ 1048576) (ha : a ≤ 16777216) :
    Calls Tryd.prog 67 #[.pointer (some ⟨g, 0, none⟩)] w fun e w' => ∃ (v : Value) (l : List Ent) (s1 s2 : ByteArray), e = .returned (.tuple #[v, .string s1, .string s2]) ∧ EntL w.heap.size w' v l ∧ LgK l ∧ s1.size ≤ 16 ∧ s2.size ≤ 16 ∧ DrNew g A n c a 2000 w w' := by
  have hgw := h.lt
  go_enter Tryd.func67, Tryd.ntmps67
  go_wp2_with (fail)
  refine (ldraw_s g A n c a 6 _ h hn (by omega) (by omega)).mono ?_; rintro e w1 ⟨s0, rfl, hs0, a1, h11, h12, D1, C1⟩
  have HO1 : Hid (EntL w.heap.size (w1.alloc (.cells #[] 48)) (.slice (some ⟨w1.heap.size, 0, none⟩) 0 0) []) := Lib.hid (OwnL.of_empty w1 C1.size)
  have D1a := D1.alloc (.cells #[] 48)
  have HC1 := Lib.hid (C1.alloc (.cells #[] 48))
  clear D1 C1 h
  go_wp2_with (fail)
  refine (pick_s g A n c a1 6 _ D1a hn (by omega) (by omega)).mono ?_; rintro e w2 ⟨r, hr, rfl, a2, h21, h22, D2, C2, S2⟩
  have hr5 : r ≤ 5 := by omega
  have HO2 := Lib.hid (OwnL.chgIn HO1.out C2 (by omega))
  have HC2 := Lib.hid (HC1.out.trans C2)
  have HD2 := Lib.hid D2
  clear HO1 D1a HC1 C2 S2 D2 hr
  go_wp2_with (fail)
  go_loopw [8, 6, 7] (fun i at' out wx => ∃ (k a' : Nat) (s : ByteArray) (l : List Ent), i = .int .i64 k ∧ at' = .string s ∧ s.size ≤ 16 ∧ k ≤ r ∧ l.length + k ≤ r ∧ a2 ≤ a' ∧ a' + 100 * k ≤ a2 + 100 * r ∧ Hid (LgK l) ∧ Hid (DrAt wx g A n c a') ∧ Hid (Chg g (g + 1) w wx) ∧ Hid (EntL w.heap.size wx out l)) (fun i _ _ _ => (intOf i).toNat)
  case atStart => exact ⟨r, a2, s0, [], rfl, rfl, hs0, Nat.le_refl _, by simp, Nat.le_refl _, by omega, Lib.hid LgK.nil, HD2, HC2, HO2⟩
  case round =>
    clear HD2 HC2 HO2
    obtain ⟨k, a3, s, l, rfl, rfl, hs, hk, hlk, ha31, ha32, HK, HD, HC, HO⟩ := hrel
    have hzr := HC.out.size
    have hgr := HD.out.lt
    by_cases hk0 : 0 < k
    · go_wp2_with (fail)
      refine (ldraw_s g A n c a3 6 _ HD.out hn (by omega) (by omega)).mono ?_; rintro e w3 ⟨s3, rfl, hs3, a4, h41, h42, D3, C3⟩
      have HC3 := Lib.hid (HC.out.trans C3)
      have HO3 := Lib.hid (OwnL.chgIn HO.out C3 (by omega))
      clear C3 HC HO HD
      go_wp2_with (fail)
      refine (one_s g A n c a4 6 _ D3 hn (by omega) (by omega)).mono ?_; rintro e w4 ⟨b4, rfl, a5, h51, h52, D4, C4, S4⟩
      have HC4 := Lib.hid (HC3.out.trans C4)
      have HO4 := Lib.hid (OwnL.chgIn HO3.out C4 (by omega))
      have hg4 := D4.lt
      have z4 : w.heap.size ≤ w4.heap.size := HC4.out.size
      clear D3 HC3 HO3 C4 S4
      cases b4
      all_goals
        have DA := D4.alloc (.cells #[.string { data := #[114, 101, 97, 100] }, .string { data := #[109, 101, 114, 103, 101] }, .string { data := #[114, 101, 112, 97, 105, 114] }, .string { data := #[114, 101, 45, 114, 101, 97, 100] }] 9)
        have HCA := Lib.hid (HC4.out.alloc (.cells #[.string { data := #[114, 101, 97, 100] }, .string { data := #[109, 101, 114, 103, 101] }, .string { data := #[114, 101, 112, 97, 105, 114] }, .string { data := #[114, 101, 45, 114, 101, 97, 100] }] 9))
        have HOA := Lib.hid (OwnL.alloc HO4.out (.cells #[.string { data := #[114, 101, 97, 100] }, .string { data := #[109, 101, 114, 103, 101] }, .string { data := #[114, 101, 112, 97, 105, 114] }, .string { data := #[114, 101, 45, 114, 101, 97, 100] }] 9))
        clear D4 HC4 HO4
        go_wp2_with (fail)
        refine (text_s g A n c a5 w4.heap.size 4 [{ data := #[114, 101, 97, 100] }, { data := #[109, 101, 114, 103, 101] }, { data := #[114, 101, 112, 97, 105, 114] }, { data := #[114, 101, 45, 114, 101, 97, 100] }] _ DA hn (by omega) (by simp) (by simp) hg4 (by simp) ?_).mono ?_
        · intro j x hj
          match j, hj with
          | 0, hj => simp at hj; subst hj; simp
          | 1, hj => simp at hj; subst hj; simp
          | 2, hj => simp at hj; subst hj; simp
          | 3, hj => simp at hj; subst hj; simp
          | j + 4, hj => simp at hj
        rintro e w5 ⟨x, hx, rfl, a6, h61, h62, D5, C5, S5⟩
        have hx16 : x.size ≤ 16 := by
          simp only [List.mem_cons, List.not_mem_nil, or_false] at hx
          rcases hx with rfl | rfl | rfl | rfl <;> decide
        have HC5 := Lib.hid (HCA.out.trans C5)
        have HO5 := Lib.hid (OwnL.chgIn HOA.out C5 (by omega))
        have z5 : w.heap.size ≤ w5.heap.size := HC5.out.size
        have HD5 := Lib.hid D5
        have hc1 := crcB_bd s
        have hc2 := crcB_bd s3
        have hlo := World.ownsRow.lt HO5.out
        have hll : l.length < 30 := by omega
        have HN := fun b a => HK.out.next (b := b) (a := a) hll hx16
        clear DA HCA HOA C5 S5 hx D5
        go_wp2_with (first
          | (go_at_call 83; first | (refine (check_s s _ (by omega)).mono ?_; rintro e w6 ⟨rfl, rfl⟩) | (refine (check_s s3 _ (by omega)).mono ?_; rintro e w6 ⟨rfl, rfl⟩))
          | (go_at_call 82; refine (append_s w.heap.size _ l x _ _ _ HO5.out (by omega) (by omega) HK.out.lc (by omega) (by omega) (by omega)).mono ?_; rintro e w7 ⟨v7, rfl, how7, hg7⟩))
        go_roundw
        case rel => exact ⟨k - 1, a6, _, _, by go_num, rfl, by omega, by omega, by simp; omega, by omega, by omega, Lib.hid (HN _ _), Lib.hid (HD5.out.grown hg7 (fun q hq => by have := (hlo q hq).1; omega)), Lib.hid (HC5.out.grown hg7 (fun q hq => (hlo q hq).1)), Lib.hid how7⟩
        case measure => simp [intOf]; omega
    · obtain rfl : k = 0 := by omega
      go_wp2_with (fail)
      refine (one_s g A n c a3 20 _ HD.out hn (by omega) (by omega)).mono ?_; rintro e w3 ⟨b3, rfl, a4, h41, h42, D3, C3, S3⟩
      have HC3 := Lib.hid (HC.out.trans C3)
      have HO3 := Lib.hid (OwnL.chgIn HO.out C3 (by omega))
      have z3 : w.heap.size ≤ w3.heap.size := HC3.out.size
      have haa : a ≤ a4 ∧ a4 ≤ a + 2000 := by omega
      have HD3 := Lib.hid D3
      clear D3 C3 S3 HC HO HD ha31 ha32 h41 h42 h11 h12 h21 h22
      obtain ⟨Al, nl, cl, rfl⟩ := own_slice HO3.out
      cases b3
      · go_wp2
        exact bodyPost_ret (v := .tuple #[.slice Al nl cl, .string s0, .string s]) (by simp [results, Tryd.results67, go_sem]) rfl ⟨_, l, s0, s, rfl, HO3.out, HK.out, hs0, hs, a4, haa.1, haa.2, HD3.out, HC3.out⟩
      · have hc1 := crcB_bd s
        go_wp2_with (fail)
        generalize hwo : w3 = wo at *
        clear hwo
        go_loopw [7] (fun out wx => ∃ (l : List Ent), Hid (LgK l) ∧ Hid (DrAt wx g A n c a4) ∧ Hid (Chg g (g + 1) w wx) ∧ Hid (EntL w.heap.size wx out l)) (fun out _ => 30 - (lenOf out))
        case atStart => exact ⟨l, HK, HD3, HC3, HO3⟩
        case round =>
          clear HK HD3 HC3 HO3
          obtain ⟨l, HK, HD, HC, HO⟩ := hrel
          have hlen := HK.out.len
          have z4 : w.heap.size ≤ wr.heap.size := HC.out.size
          have hlo := World.ownsRow.lt HO.out
          obtain ⟨Al, cl, rfl, _⟩ := OwnL.shape HO.out
          by_cases hlt : l.length < 30
          · have hd : decide ((l.length : Int) < 30) = true := by simp; omega
            have hd2 : decide (l.length < 30) = true := by simpa using hlt
            have HN := fun b a => HK.out.next (s := { data := #[119, 97, 105, 116] }) (b := b) (a := a) hlt (by decide)
            go_wp2_with (first
              | (go_at_call 83; refine (check_s s _ (by omega)).mono ?_; rintro e w6 ⟨rfl, rfl⟩)
              | (go_at_call 82; refine (append_s w.heap.size _ l { data := #[119, 97, 105, 116] } _ _ _ HO.out (by omega) (by omega) HK.out.lc (by decide) (by omega) (by omega)).mono ?_; rintro e w7 ⟨v7, rfl, how7, hg7⟩))
            go_roundw
            case rel => exact ⟨_, Lib.hid (HN _ _), Lib.hid (HD.out.grown hg7 (fun q hq => by have := (hlo q hq).1; omega)), Lib.hid (HC.out.grown hg7 (fun q hq => (hlo q hq).1)), Lib.hid how7⟩
            case measure =>
              obtain ⟨A7, c7, e7, _⟩ := OwnL.shape how7
              rw [e7]
              simp [lenOf]; omega
          · have hd : decide ((l.length : Int) < 30) = false := by simp; omega
            have hd2 : decide (l.length < 30) = false := by simpa using hlt
            go_wp2
            exact bodyPost_ret (v := .tuple #[.slice Al l.length cl, .string s0, .string s]) (by simp [results, Tryd.results67, go_sem]) rfl ⟨_, l, s0, s, rfl, HO.out, HK.out, hs0, hs, a4, haa.1, haa.2, HD.out, HC.out⟩
end Go.Proofs.YtkpjjohanbiagaaDoor
