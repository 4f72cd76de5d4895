/- FnLedger: the drawn entry, a number chosen by bytes. -/
import Derived.Test.YtkpjjohanbiagaaDoorJnF
namespace Go.Proofs.YtkpjjohanbiagaaDoor
set_option linter.unusedVariables false
set_option linter.unusedSimpArgs false
open Go.RowKit
/-- a drawn ledger, as the law uses it -/
structure LgA (w : World) (v : Value) (l : List Ent) : Prop where
  o : EntO w v l
  len : l.length ≤ 31
  vb : ∀ e ∈ l, e.verb.size ≤ 16
set_option maxRecDepth 20000 in
set_option maxHeartbeats 8000000 in
theorem drawA_s (A : Option Addr) (n c : Nat) (w : World) (h : BytesIn w A n) (hn : n ≤ 1048576) :
    Calls Tryd.prog 17 #[.slice A n c] w fun e w' => ∃ (v : Value) (l : List Ent) (s1 s2 s3 : ByteArray), e = .returned (.tuple #[v, .string s1, .string s2, .string s3]) ∧ LgA w' v l ∧ s1.size ≤ 16 ∧ s2.size ≤ 16 ∧ s3.size ≤ 16 ∧ Below w.heap.size w w' := by
  have hD : DrAt (w.alloc (.cells #[.slice A n c, .int .i64 0, .int .u64 0] 104)) w.heap.size A n c 0 := by
    refine ⟨by simp, by simp, by simp, ⟨0, by simp⟩, by simp, ?_⟩
    rcases h with h | ⟨b, o, h1, h2, h3⟩
    · exact .inl h
    · exact .inr ⟨b, o, h1, h2, fun j hj => by
        obtain ⟨x, hx, hc⟩ := h3 j hj
        exact ⟨x, hx, (World.cell?_alloc_old _ _ _ (Nat.ne_of_lt h2)).trans hc⟩⟩
  have hB0 : Below w.heap.size w (w.alloc (.cells #[.slice A n c, .int .i64 0, .int .u64 0] 104)) := Below.alloc (Below.refl _ _) (Nat.le_refl _) _
  have hz0 : (w.alloc (.cells #[.slice A n c, .int .i64 0, .int .u64 0] 104)).heap.size = w.heap.size + 1 := by simp
  clear h
  go_enter Tryd.func17, Tryd.ntmps17
  go_upto_region 2 with (go_in)
  generalize (w.alloc (.cells #[.slice A n c, .int .i64 0, .int .u64 0] 104)) = w0 at *
  have hgw : w.heap.size < w0.heap.size := by omega
  generalize hg : w.heap.size = g at *
  have HG := Lib.hid hg
  clear hz0 hg
  go_wp2_with (fail)
  refine (bent_s g A n c 0 9 w0 hD hn (by omega) (by omega)).mono ?_; rintro e w1 ⟨v, l, t1, s2, rfl, X1, ht1, hs2, a1, h11, h12, D1, C1⟩
  have hz1 := C1.size
  go_wp2_with (fail)
  refine (one_s g A n c a1 6 _ D1 hn (by omega) (by omega)).mono ?_; rintro e w2 ⟨b2, rfl, a2, h21, h22, D2, C2, S2⟩
  have HX2 := Lib.hid (X1.chg C2 (by omega))
  have HC2 := Lib.hid (C1.trans C2)
  have hg2 := D2.lt
  clear X1 C1 C2 D1
  have hfin : ∀ W, Chg g (g + 1) w0 W → Below g w W := fun W hc => hB0.trans ⟨hc.os, hc.tape, hc.output, hc.size, fun q hq => hc.block q (by omega) (by omega)⟩
  have HFI := Lib.hid hfin
  clear hfin
  clear S2
  cases b2
  · have DL := D2
    have HXL := HX2
    have HCL := HC2
    have hsL := hs2
    have haL : a2 ≤ 4000 := by omega
    clear D2 HX2 HC2 hs2 h21 h22
    generalize w2 = wL at *
    generalize s2 = sL at *
    generalize a2 = aL at *
    have hgL := DL.lt
    have DA := DL.alloc (.cells #[.string { data := #[114, 101, 97, 100] }, .string { data := #[109, 101, 114, 103, 101] }, .string { data := #[120] }, .string { data := #[78, 111] }] 9)
    have HCA := Lib.hid (HCL.out.alloc (.cells #[.string { data := #[114, 101, 97, 100] }, .string { data := #[109, 101, 114, 103, 101] }, .string { data := #[120] }, .string { data := #[78, 111] }] 9))
    have HXA := Lib.hid (HXL.out.keep (w' := wL.alloc (.cells #[.string { data := #[114, 101, 97, 100] }, .string { data := #[109, 101, 114, 103, 101] }, .string { data := #[120] }, .string { data := #[78, 111] }] 9)) (by simp) (fun b h1 h2 => (World.grownBy_alloc wL (.cells #[.string { data := #[114, 101, 97, 100] }, .string { data := #[109, 101, 114, 103, 101] }, .string { data := #[120] }, .string { data := #[78, 111] }] 9) none).block b h2 (by simp)))
    clear DL HCL HXL
    go_wp2_with (fail)
    refine (text_s g A n c aL wL.heap.size 4 [{ data := #[114, 101, 97, 100] }, { data := #[109, 101, 114, 103, 101] }, { data := #[120] }, { data := #[78, 111] }] _ DA hn (by omega) (by simp) (by simp) hgL (by simp) ?_).mono ?_
    · intro j x hj
      match j, hj with
      | 0, hj => simp at hj; subst hj; simp
      | 1, hj => simp at hj; subst hj; simp
      | 2, hj => simp at hj; subst hj; simp
      | 3, hj => simp at hj; subst hj; simp
      | j + 4, hj => simp at hj
    rintro e w5 ⟨x, hx, rfl, a6, h61, h62, D5, C5, S5⟩
    have hx16 : x.size ≤ 16 := by
      simp only [List.mem_cons, List.not_mem_nil, or_false] at hx
      rcases hx with rfl | rfl | rfl | rfl <;> decide
    have HC5 := Lib.hid (HCA.out.trans C5)
    have HX5 := Lib.hid (HXA.out.chg C5 (by omega))
    clear HCA HXA C5 S5 DA hx
    go_wp2_with (fail)
    refine (ldraw_s g A n c a6 6 _ D5 hn (by omega) (by omega)).mono ?_; rintro e w6 ⟨s6, rfl, hs6, a7, h71, h72, D6, C6⟩
    have HC6 := Lib.hid (HC5.out.trans C6)
    have HX6 := Lib.hid (HX5.out.chg C6 (by omega))
    clear HC5 HX5 C6 D6
    go_wp2
    exact bodyPost_ret (v := .tuple #[v, .string x, .string sL, .string s6]) (by simp [results, Tryd.results17, go_sem]) rfl ⟨v, l, x, sL, s6, rfl, ⟨HX6.out.o, HX6.out.len, HX6.out.vb⟩, hx16, hsL, hs6, by rw [HG.out]; exact HFI.out _ HC6.out⟩
  · go_wp2_with (fail)
    refine (ldraw_s g A n c a2 3 _ D2 hn (by omega) (by omega)).mono ?_; rintro e wL ⟨sL, rfl, hsL, aL, h31, h32, DL, CL⟩
    have HXL := Lib.hid (HX2.out.chg CL (by omega))
    have HCL := Lib.hid (HC2.out.trans CL)
    have haL : aL ≤ 4000 := by omega
    clear D2 HX2 HC2 CL h31 h32 h21 h22
    have hgL := DL.lt
    have DA := DL.alloc (.cells #[.string { data := #[114, 101, 97, 100] }, .string { data := #[109, 101, 114, 103, 101] }, .string { data := #[120] }, .string { data := #[78, 111] }] 9)
    have HCA := Lib.hid (HCL.out.alloc (.cells #[.string { data := #[114, 101, 97, 100] }, .string { data := #[109, 101, 114, 103, 101] }, .string { data := #[120] }, .string { data := #[78, 111] }] 9))
    have HXA := Lib.hid (HXL.out.keep (w' := wL.alloc (.cells #[.string { data := #[114, 101, 97, 100] }, .string { data := #[109, 101, 114, 103, 101] }, .string { data := #[120] }, .string { data := #[78, 111] }] 9)) (by simp) (fun b h1 h2 => (World.grownBy_alloc wL (.cells #[.string { data := #[114, 101, 97, 100] }, .string { data := #[109, 101, 114, 103, 101] }, .string { data := #[120] }, .string { data := #[78, 111] }] 9) none).block b h2 (by simp)))
    clear DL HCL HXL
    go_wp2_with (fail)
    refine (text_s g A n c aL wL.heap.size 4 [{ data := #[114, 101, 97, 100] }, { data := #[109, 101, 114, 103, 101] }, { data := #[120] }, { data := #[78, 111] }] _ DA hn (by omega) (by simp) (by simp) hgL (by simp) ?_).mono ?_
    · intro j x hj
      match j, hj with
      | 0, hj => simp at hj; subst hj; simp
      | 1, hj => simp at hj; subst hj; simp
      | 2, hj => simp at hj; subst hj; simp
      | 3, hj => simp at hj; subst hj; simp
      | j + 4, hj => simp at hj
    rintro e w5 ⟨x, hx, rfl, a6, h61, h62, D5, C5, S5⟩
    have hx16 : x.size ≤ 16 := by
      simp only [List.mem_cons, List.not_mem_nil, or_false] at hx
      rcases hx with rfl | rfl | rfl | rfl <;> decide
    have HC5 := Lib.hid (HCA.out.trans C5)
    have HX5 := Lib.hid (HXA.out.chg C5 (by omega))
    clear HCA HXA C5 S5 DA hx
    go_wp2_with (fail)
    refine (ldraw_s g A n c a6 6 _ D5 hn (by omega) (by omega)).mono ?_; rintro e w6 ⟨s6, rfl, hs6, a7, h71, h72, D6, C6⟩
    have HC6 := Lib.hid (HC5.out.trans C6)
    have HX6 := Lib.hid (HX5.out.chg C6 (by omega))
    clear HC5 HX5 C6 D6
    go_wp2
    exact bodyPost_ret (v := .tuple #[v, .string x, .string sL, .string s6]) (by simp [results, Tryd.results17, go_sem]) rfl ⟨v, l, x, sL, s6, rfl, ⟨HX6.out.o, HX6.out.len, HX6.out.vb⟩, hx16, hsL, hs6, by rw [HG.out]; exact HFI.out _ HC6.out⟩
theorem b10lng (A : Option Addr) (n c : Nat) (w : World) (hm : n ≤ maxLen) : Calls Tryd.prog 16 #[.slice A n c] w fun e w' => e = .returned (.bool (decide (1048576 < n))) ∧ w = w' := by
  go_enter Tryd.func16, Tryd.ntmps16
  go_wp2
  go_ret
  exact ⟨ret_bool (by rw [Bool.eq_iff_iff, decide_eq_true_eq, decide_eq_true_eq]; omega), rfl⟩
theorem b10at (A : Option Addr) (n c : Nat) (i m : Nat) (w : World) (h : BytesIn w A n) (hi : i ≤ 100) (hm : m ≤ 1048576) : ∃ r : Nat, (r < m ∨ r = 0) ∧ Calls Tryd.prog 23 #[.slice A n c, .int .i64 i, .int .i64 m] w fun e w' => e = .returned (.int .i64 r) ∧ w' = w := by
  by_cases h1 : m ≤ 1
  · refine ⟨0, .inr rfl, ?_⟩
    go_enter Tryd.func23, Tryd.ntmps23
    go_wp2
    go_ret
    exact ⟨rfl, rfl⟩
  by_cases hin : i < n
  · obtain ⟨b, o, rfl, hlt, hc⟩ := h.resolve_left (by omega)
    obtain ⟨x, hx, hcx⟩ := hc i hin
    refine ⟨x % m, .inl (Nat.mod_lt _ (by omega)), ?_⟩
    go_enter Tryd.func23, Tryd.ntmps23
    go_wp2
    go_ret
    exact ⟨ret_int (by push_cast; rfl), rfl⟩
  · refine ⟨(i * 37 + 11) % m, .inl (Nat.mod_lt _ (by omega)), ?_⟩
    go_enter Tryd.func23, Tryd.ntmps23
    go_wp2
    go_ret
    exact ⟨ret_int (by push_cast; rfl), rfl⟩
end Go.Proofs.YtkpjjohanbiagaaDoor
