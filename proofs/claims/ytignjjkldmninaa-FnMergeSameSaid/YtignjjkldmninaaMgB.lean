/- l10Byte, l10Vote: the walks. -/
import Derived.Test.YtignjjkldmninaaMgV
import Derived.Test.YtignjjkldmninaaDrawB
import Derived.Test.YtignjjkldmninaaHInt64
import Derived.Test.YtignjjkldmninaaAppAt
namespace Go.Proofs.Ytignjjkldmninaa
set_option linter.unusedVariables false
open Go.RowKit
def ByteSt (c : Nat → Nat) (b best most : Nat) : Prop := (b = 0 ∧ best = 0 ∧ most = 0) ∨ (best = voteK c b ∧ most = c (voteK c b))
theorem byte_yes {c : Nat → Nat} {b best most : Nat} (h : ByteSt c b best most) (hx : most < c b) : ByteSt c (b + 1) b (c b) := by
  have e : voteK c (b + 1) = b := by
    rcases h with ⟨rfl, rfl, rfl⟩ | ⟨rfl, rfl⟩
    · simp [voteK]
    · rw [voteK, if_pos hx]
  exact .inr ⟨e.symm, by rw [e]⟩
theorem byte_no {c : Nat → Nat} {b best most : Nat} (h : ByteSt c b best most) (hx : ¬ most < c b) : ByteSt c (b + 1) best most := by
  rcases h with ⟨rfl, rfl, rfl⟩ | ⟨rfl, rfl⟩
  · have e : voteK c (0 + 1) = 0 := by simp [voteK]
    exact .inr ⟨e.symm, by rw [e]; omega⟩
  · have e : voteK c (b + 1) = voteK c b := by rw [voteK, if_neg hx]
    exact .inr ⟨e.symm, by rw [e]⟩
theorem byte_end {c : Nat → Nat} {best most : Nat} (h : ByteSt c 256 best most) : best = voteK c 256 := by
  rcases h with ⟨h, _⟩ | ⟨h, _⟩
  · omega
  · exact h
set_option maxRecDepth 20000 in
set_option maxHeartbeats 4000000 in
theorem byte_s (B : Nat) (D : List ByteArray) (v : Value) (i : Nat) (w : World) (h : StringL B w v D) (hn : D.length ≤ 1048576) (h0 : D ≠ []) (hs : ∀ s ∈ D, i < s.size) (hi : i ≤ 1048576) :
    Calls Try.prog 131 #[v, .int .i64 i] w fun e w' => ∃ t : Bool, e = .returned (.tuple #[.int .u8 (byteV D i : Nat), .bool t]) ∧ w = w' := by
  obtain ⟨A, c, rfl, hA⟩ := OwnL.shape h
  obtain ⟨g, rfl, _, hg⟩ := hA.resolve_left h0
  have HC := Lib.hid (fun k s (hk : D[k]? = some s) => StringL.at_ h rfl hk)
  have HS := Lib.hid hs
  have HCL := Lib.hid (fun k b => cntBk_le D i k b)
  clear hA h h0 hs
  go_enter Try.func131, Try.ntmps131
  go_wp2
  go_loop [8, 7, 6] (fun j m y => ∃ b most best : Nat, b ≤ 256 ∧ j = .int .i64 b ∧ m = .int .i64 most ∧ y = .int .u8 best ∧ most ≤ 1048576 ∧ best < 256 ∧ Hid (ByteSt (cntB D i) b best most)) (fun j _ _ => 256 - (intOf j).toNat)
  case atStart => exact ⟨0, 0, 0, by omega, rfl, rfl, rfl, by omega, by omega, Lib.hid (.inl ⟨rfl, rfl, rfl⟩)⟩
  case round =>
    obtain ⟨b, most, best, hb, rfl, rfl, rfl, hm, hbe, HB⟩ := hrel
    by_cases hlt : b < 256
    · have hbm : (b : Int) % 256 = b := by omega
      have HY := Lib.hid (fun h => byte_yes HB.out h)
      have HN := Lib.hid (fun h => byte_no HB.out h)
      go_wp2
      go_loop [10, 9] (fun j m => ∃ k x : Nat, k ≤ D.length ∧ j = .int .i64 k ∧ m = .int .i64 x ∧ x ≤ k ∧ Hid (x = cntBk D i k b)) (fun j _ => D.length - (intOf j).toNat)
      case atStart => exact ⟨0, 0, by omega, rfl, rfl, by omega, Lib.hid (by simp [cntBk, cntB])⟩
      case round =>
        obtain ⟨k, x, hk, rfl, rfl, hx, HX⟩ := hrel
        by_cases hltk : k < D.length
        · obtain ⟨s, hs⟩ : ∃ s, D[k]? = some s := ⟨D[k], List.getElem?_eq_getElem hltk⟩
          have q0 := HC.out k s hs
          have his := HS.out s (List.mem_of_getElem? hs)
          have hx256 : s[i].toNat < 256 := s[i].toNat_lt
          have HXN := Lib.hid (cnt_next (i := i) hs his b hlt)
          clear hs
          by_cases hc : b = s[i].toNat
          · have HX2 : Hid (x + 1 = cntBk D i (k + 1) b) := Lib.hid (by rw [HXN.out, if_pos hc, ← hc, ← HX.out])
            have d1 : ((s[i].toNat : Int) == (b : Int)) = true := by rw [beq_iff_eq]; omega
            have d2 : (s[i].toNat == b) = true := by rw [beq_iff_eq]; omega
            clear hc
            go_wp2
            go_round
            case rel => exact ⟨k + 1, x + 1, by omega, by go_num, by go_num, by omega, HX2⟩
            case measure => simp [intOf]; omega
          · have HX2 : Hid (x = cntBk D i (k + 1) b) := Lib.hid (by rw [HXN.out, if_neg hc, ← HX.out])
            have d1 : ((s[i].toNat : Int) == (b : Int)) = false := by rw [beq_eq_false_iff_ne]; omega
            have d2 : (s[i].toNat == b) = false := by rw [beq_eq_false_iff_ne]; omega
            clear hc
            go_wp2
            go_round
            case rel => exact ⟨k + 1, x, by omega, by go_num, rfl, by omega, HX2⟩
            case measure => simp [intOf]; omega
        · obtain rfl : k = D.length := by omega
          have HXE : Hid (x = cntB D i b) := Lib.hid (by rw [HX.out]; unfold cntBk; rw [List.take_length])
          by_cases hc : most < x
          · have HB2 : Hid (ByteSt (cntB D i) (b + 1) b x) := Lib.hid (by rw [HXE.out]; exact HY.out (by rw [← HXE.out]; exact hc))
            have d1 : decide ((most : Int) < (x : Int)) = true := decide_eq_true (by omega)
            have d2 : decide (most < x) = true := decide_eq_true hc
            clear HY HN HX HXE HB
            go_wp2
            go_round
            case rel => exact ⟨b + 1, x, b, by omega, by go_num, rfl, rfl, by omega, hlt, HB2⟩
            case measure => simp [intOf]; omega
          · have HB2 : Hid (ByteSt (cntB D i) (b + 1) best most) := Lib.hid (HN.out (by rw [← HXE.out]; exact hc))
            have d1 : decide ((most : Int) < (x : Int)) = false := decide_eq_false (by omega)
            have d2 : decide (most < x) = false := decide_eq_false hc
            clear HY HN HX HXE HB
            go_wp2
            go_round
            case rel => exact ⟨b + 1, most, best, by omega, by go_num, rfl, rfl, hm, hbe, HB2⟩
            case measure => simp [intOf]; omega
    · obtain rfl : b = 256 := by omega
      have HE : Hid (byteV D i = best) := Lib.hid (byte_end HB.out).symm
      go_wp2
      rw [HE.out]
      exact bodyPost_ret (v := .tuple #[.int .u8 best, .bool (most == D.length)]) (by simp [results, Try.results131, go_sem]; first | done | rfl | (rw [Bool.eq_iff_iff, beq_iff_eq, beq_iff_eq]; omega)) rfl (by cases (most == D.length) <;> simp)
set_option maxRecDepth 20000 in
set_option maxHeartbeats 4000000 in
theorem vote_s (B : Nat) (D : List ByteArray) (v : Value) (w : World) (h : StringL B w v D) (hn : D.length ≤ 1048576) (h0 : D ≠ []) (n : Nat) (hs : ∀ s ∈ D, s.size = n) (hn2 : n ≤ 1048576) :
    Calls Try.prog 112 #[v] w fun e w' => ∃ A m c, e = .returned (.tuple #[.string (strN (voteV D)), .slice A m c]) ∧ Below w.heap.size w w' := by
  obtain ⟨i0, hi, hz0, hz1, hz2⟩ := info_parts icell_info
  obtain ⟨i1, ji, jz0, jz1, jz2⟩ := info_parts ucell_info
  have hl : 0 < D.length := List.length_pos_iff.2 h0
  obtain ⟨s0, hs0⟩ : ∃ s, D[0]? = some s := ⟨D[0], List.getElem?_eq_getElem hl⟩
  have hs00 : s0.size = n := hs s0 (List.mem_of_getElem? hs0)
  subst hs00
  have HBY := Lib.hid (fun i (hi : i < s0.size) W (hb : Below w.heap.size w W) => byte_s B D v i W (OwnL.below h hb) hn h0 (fun s hs' => by have := hs s hs'; omega) (by omega))
  have HVV : Hid (voteV D = (List.range s0.size).map (byteV D)) := Lib.hid (by unfold voteV; rw [List.getD_eq_getElem?_getD, hs0]; rfl)
  obtain ⟨A, c, rfl, hA⟩ := OwnL.shape h
  obtain ⟨g, rfl, _, hg⟩ := hA.resolve_left h0
  have p0 := StringL.at_ h rfl hs0
  clear hA h h0 hs0 hs
  have hb0 : Below w.heap.size w ((w.alloc (.cells #[] 5)).alloc (.cells #[] 2)) := Below.alloc (Below.alloc (Below.refl _ _) (Nat.le_refl _) _) (by simp) _
  have HO0 : Hid (BytesL w.heap.size ((w.alloc (.cells #[] 5)).alloc (.cells #[] 2)) (.slice (some ⟨w.heap.size, 0, none⟩) 0 0) []) := Lib.hid (OwnL.alloc (OwnL.of_empty w (Nat.le_refl _)) _)
  have HK0 : Hid (Int64L w.heap.size ((w.alloc (.cells #[] 5)).alloc (.cells #[] 2)) (.slice (some ⟨w.heap.size + 1, 0, none⟩) 0 0) []) := Lib.hid (by have := OwnL.of_empty (f := icell) (z := 1) (α := Int) (e := 2) (B := w.heap.size) (w.alloc (.cells #[] 5)) (by simp); simpa using this)
  have HD0 : Hid (∀ b, (Value.slice (some ⟨w.heap.size, 0, none⟩) 0 0).ownBlock = some b → (Value.slice (some ⟨w.heap.size + 1, 0, none⟩) 0 0).ownBlock ≠ some b) := Lib.hid fun b h1 h2 => by simp [Value.ownBlock] at h1 h2; omega
  go_enter Try.func112, Try.ntmps112
  go_wp2
  go_loopw [6, 4, 5] (fun i x y wr => ∃ (k gx cx : Nat) (ks : List Int), k ≤ s0.size ∧ i = .int .i64 k ∧ x = .slice (some ⟨gx, 0, none⟩) k cx ∧ ks.length ≤ k ∧ Below w.heap.size w wr ∧ Hid (BytesL w.heap.size wr x ((List.range k).map (byteV D))) ∧ Hid (Int64L w.heap.size wr y ks) ∧ Hid (∀ b, x.ownBlock = some b → y.ownBlock ≠ some b)) (fun i _ _ _ => s0.size - (intOf i).toNat)
  case atStart => exact ⟨0, w.heap.size, 0, [], by omega, rfl, rfl, by simp, hb0, HO0, HK0, HD0⟩
  case round =>
    clear HO0 HK0 HD0 hb0
    obtain ⟨k, gx, cx, ks, hk, rfl, rfl, hks, hb, HO, HK, HD⟩ := hrel
    have zr := hb.size
    have q0 := (hb.cell (p := ⟨g, 0, none⟩) hg).trans p0
    obtain ⟨Ay, cy, rfl, hAy⟩ := OwnL.shape HK.out
    by_cases hlt : k < s0.size
    · have HB := Lib.hid (HBY.out k hlt wr hb)
      have hbv := byteV_lt D k
      have HN : Hid ((List.range (k + 1)).map (byteV D) = (List.range k).map (byteV D) ++ [byteV D k]) := Lib.hid (by rw [List.range_succ, List.map_append]; rfl)
      generalize byteV D k = bv at *
      have hl1 : ((List.range k).map (byteV D)).length + 1 ≤ 16777216 := by simp; omega
      have hl2 : ks.length + 1 ≤ 16777216 := by omega
      have hks1 : (ks ++ [(k : Int)]).length = ks.length + 1 := by simp
      have hlk1 : ((List.range k).map (byteV D) ++ [bv]).length = k + 1 := by simp
      have hbase : w.heap.size ≤ (wr.alloc (.cells #[.int .u8 (bv : Nat)] 5)).heap.size := by simp; omega
      go_wp2_with (fail)
      refine HB.out.mono ?_; rintro e w1 ⟨t, rfl, rfl⟩
      cases t
      all_goals
        go_wp2_with (first
          | (at_builtin; refine wpList_app1at ucell 1 ucell_len _ rfl _ _ _ rfl w.heap.size 5 i1 (.int .u8 0) 1 Try.underlying70 ji jz0 jz1 jz2 rfl (by decide) _ ((List.range k).map (byteV D)) rfl (HO.out.alloc _) _ 1 bv rfl ?_ (by simp [ucell, Value.oneCell']) hl1 (by decide) hbase ?_; (· intro j u hu; cases j with | zero => (simp [ucell] at hu; subst hu; simp) | succ j => simp [ucell] at hu); intro v8 w8 how8 hg8' hbl8'; have hg8 : (wr.alloc (.cells #[.int .u8 (bv : Nat)] 5)).grownBy w8 (Value.slice (some ⟨gx, 0, none⟩) k cx).ownBlock := hg8'; have hbl8 : v8.ownBlock = (Value.slice (some ⟨gx, 0, none⟩) k cx).ownBlock ∨ v8.ownBlock = some (wr.alloc (.cells #[.int .u8 (bv : Nat)] 5)).heap.size := hbl8'; have hb8 : Below w.heap.size w w8 := own_grown_below (HO.out.alloc (.cells #[.int .u8 (bv : Nat)] 5)) (Below.alloc hb zr _) hg8 (Nat.le_refl _) hbase; have z8 := hg8.size; have HO8 := Lib.hid how8; have HK8 := Lib.hid (OwnL.kept (OwnL.alloc HK.out (.cells #[.int .u8 (bv : Nat)] 5)) hg8 (by (cases h1 : (Value.slice Ay ks.length cy).ownBlock with | none => exact .inl rfl | some q => exact .inr fun he => HD.out q he.symm h1))); have HD8 : Hid (∀ b, v8.ownBlock = some b → (Value.slice Ay ks.length cy).ownBlock ≠ some b) := Lib.hid (fun b h1 h2 => hbl8.elim (fun h => HD.out b (by rw [← h]; exact h1) h2) (fun h => by have h3 := (World.ownsRow.lt HK.out b h2).2; rw [h] at h1; have h4 := Option.some.inj h1; simp at h4; omega)); obtain ⟨A8, c8, hv8, hA8⟩ := OwnL.shape how8; obtain ⟨g8, rfl, _, _⟩ := hA8.resolve_left (by simp); rw [hlk1] at hv8; subst hv8; clear hA8 hg8' hbl8' how8 hg8 hbl8)
          | (at_builtin; refine wpList_app1at icell 1 icell_len _ rfl _ _ _ rfl w.heap.size 2 i0 (.int .i64 0) 8 Try.underlying32 hi hz0 hz1 hz2 rfl (by decide) _ ks rfl (HK8.out.alloc _) _ 1 (k : Int) rfl ?_ (by simp [icell, Value.oneCell']) hl2 (by decide) (Nat.le_trans hb8.size (by simp)) ?_; (· intro j u hu; cases j with | zero => (simp [icell] at hu; subst hu; simp) | succ j => simp [icell] at hu); intro v9 w9 how9 hg9' hbl9'; have hg9 : (w8.alloc (.cells #[.int .i64 (k : Int)] 2)).grownBy w9 (Value.slice Ay ks.length cy).ownBlock := hg9'; have hbl9 : v9.ownBlock = (Value.slice Ay ks.length cy).ownBlock ∨ v9.ownBlock = some (w8.alloc (.cells #[.int .i64 (k : Int)] 2)).heap.size := hbl9'; have hb9 : Below w.heap.size w w9 := own_grown_below (HK8.out.alloc (.cells #[.int .i64 (k : Int)] 2)) (Below.alloc hb8 hb8.size _) hg9 (Nat.le_refl _) (Nat.le_trans hb8.size (by simp)); have HK9 := Lib.hid how9; have HO9 := Lib.hid (OwnL.kept (OwnL.alloc HO8.out (.cells #[.int .i64 (k : Int)] 2)) hg9 (by (cases h1 : (Value.slice (some ⟨g8, 0, none⟩) (k + 1) c8).ownBlock with | none => exact .inl rfl | some q => exact .inr fun he => HD8.out q h1 he.symm))); have HD9 : Hid (∀ b, (Value.slice (some ⟨g8, 0, none⟩) (k + 1) c8).ownBlock = some b → v9.ownBlock ≠ some b) := Lib.hid (fun b h1 h2 => hbl9.elim (fun h => HD8.out b h1 (by rw [← h]; exact h2)) (fun h => by have h3 := (World.ownsRow.lt HO8.out b h1).2; rw [h] at h2; have h4 := Option.some.inj h2; simp at h4; omega)); obtain ⟨A9, c9, hv9, _⟩ := OwnL.shape how9; rw [hks1] at hv9; subst hv9; clear hg9' hbl9' how9 hg9 hbl9))
        go_roundw
        case rel => first | exact ⟨k + 1, g8, c8, _, by omega, by go_num, by first | rfl | simp, by simp; omega, hb9, by rw [HN.out]; exact HO9, HK9, HD9⟩ | exact ⟨k + 1, g8, c8, _, by omega, by go_num, by first | rfl | simp, by omega, hb8, by rw [HN.out]; exact HO8, HK8, HD8⟩
        case measure => simp [intOf]; omega
    · obtain rfl : k = s0.size := by omega
      rw [← HVV.out] at HO
      have hvl : (voteV D).length = s0.size := by rw [HVV.out]; simp
      have hst := Buf.str (n := s0.size) (c := cx) (BytesL.buf HO.out hvl) hvl
      clear HO HK HD
      go_wp2_with (fail)
      exact bodyPost_ret (v := .tuple #[.string (strN (voteV D)), .slice Ay ks.length cy]) (by simp [results, Try.results112, go_sem]) rfl ⟨_, _, _, rfl, hb⟩
end Go.Proofs.Ytignjjkldmninaa
