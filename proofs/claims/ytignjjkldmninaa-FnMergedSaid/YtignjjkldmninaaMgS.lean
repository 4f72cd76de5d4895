/- l24Sector: the walk. -/
import Derived.Test.YtignjjkldmninaaGood
import Derived.Test.YtignjjkldmninaaMgV
import Derived.Test.YtignjjkldmninaaDrawB
import Derived.Test.YtignjjkldmninaaHInt64
import Derived.Test.YtignjjkldmninaaAppAt
import Derived.StillTailTactics
import Derived.Deep.RegionHeld3
/- l10Byte, l10Vote: the walks. -/
namespace Go.Proofs.Ytignjjkldmninaa
set_option linter.unusedVariables false
open Go.RowKit
def ByteSt (c : Nat → Nat) (b best most : Nat) : Prop := (b = 0 ∧ best = 0 ∧ most = 0) ∨ (best = voteK c b ∧ most = c (voteK c b))
theorem byte_yes {c : Nat → Nat} {b best most : Nat} (h : ByteSt c b best most) (hx : most < c b) : ByteSt c (b + 1) b (c b) := by
  have e : voteK c (b + 1) = b := by
    rcases h with ⟨rfl, rfl, rfl⟩ | ⟨rfl, rfl⟩
    · simp [voteK]
    · rw [voteK, if_pos hx]
  exact .inr ⟨e.symm, by rw [e]⟩
theorem byte_no {c : Nat → Nat} {b best most : Nat} (h : ByteSt c b best most) (hx : ¬ most < c b) : ByteSt c (b + 1) best most := by
  rcases h with ⟨rfl, rfl, rfl⟩ | ⟨rfl, rfl⟩
  · have e : voteK c (0 + 1) = 0 := by simp [voteK]
    exact .inr ⟨e.symm, by rw [e]; omega⟩
  · have e : voteK c (b + 1) = voteK c b := by rw [voteK, if_neg hx]
    exact .inr ⟨e.symm, by rw [e]⟩
theorem byte_end {c : Nat → Nat} {best most : Nat} (h : ByteSt c 256 best most) : best = voteK c 256 := by
  rcases h with ⟨h, _⟩ | ⟨h, _⟩
  · omega
  · exact h
set_option maxRecDepth 20000 in
set_option maxHeartbeats 4000000 in
theorem byte_s (B : Nat) (D : List ByteArray) (v : Value) (i : Nat) (w : World) (h : StringL B w v D) (hn : D.length ≤ 1048576) (h0 : D ≠ []) (hs : ∀ s ∈ D, i < s.size) (hi : i ≤ 1048576) :
    Calls Try.prog 131 #[v, .int .i64 i] w fun e w' => ∃ t : Bool, e = .returned (.tuple #[.int .u8 (byteV D i : Nat), .bool t]) ∧ w = w' := by
  obtain ⟨A, c, rfl, hA⟩ := OwnL.shape h
  obtain ⟨g, rfl, _, hg⟩ := hA.resolve_left h0
  have HC := Lib.hid (fun k s (hk : D[k]? = some s) => StringL.at_ h rfl hk)
  have HS := Lib.hid hs
  have HCL := Lib.hid (fun k b => cntBk_le D i k b)
  clear hA h h0 hs
  go_enter Try.func131, Try.ntmps131
  go_wp2
  go_loop [8, 7, 6] (fun j m y => ∃ b most best : Nat, b ≤ 256 ∧ j = .int .i64 b ∧ m = .int .i64 most ∧ y = .int .u8 best ∧ most ≤ 1048576 ∧ best < 256 ∧ Hid (ByteSt (cntB D i) b best most)) (fun j _ _ => 256 - (intOf j).toNat)
  case atStart => exact ⟨0, 0, 0, by omega, rfl, rfl, rfl, by omega, by omega, Lib.hid (.inl ⟨rfl, rfl, rfl⟩)⟩
  case round =>
    obtain ⟨b, most, best, hb, rfl, rfl, rfl, hm, hbe, HB⟩ := hrel
    by_cases hlt : b < 256
    · have hbm : (b : Int) % 256 = b := by omega
      have HY := Lib.hid (fun h => byte_yes HB.out h)
      have HN := Lib.hid (fun h => byte_no HB.out h)
      go_wp2
      go_loop [10, 9] (fun j m => ∃ k x : Nat, k ≤ D.length ∧ j = .int .i64 k ∧ m = .int .i64 x ∧ x ≤ k ∧ Hid (x = cntBk D i k b)) (fun j _ => D.length - (intOf j).toNat)
      case atStart => exact ⟨0, 0, by omega, rfl, rfl, by omega, Lib.hid (by simp [cntBk, cntB])⟩
      case round =>
        obtain ⟨k, x, hk, rfl, rfl, hx, HX⟩ := hrel
        by_cases hltk : k < D.length
        · obtain ⟨s, hs⟩ : ∃ s, D[k]? = some s := ⟨D[k], List.getElem?_eq_getElem hltk⟩
          have q0 := HC.out k s hs
          have his := HS.out s (List.mem_of_getElem? hs)
          have hx256 : s[i].toNat < 256 := s[i].toNat_lt
          have HXN := Lib.hid (cnt_next (i := i) hs his b hlt)
          clear hs
          by_cases hc : b = s[i].toNat
          · have HX2 : Hid (x + 1 = cntBk D i (k + 1) b) := Lib.hid (by rw [HXN.out, if_pos hc, ← hc, ← HX.out])
            have d1 : ((s[i].toNat : Int) == (b : Int)) = true := by rw [beq_iff_eq]; omega
            have d2 : (s[i].toNat == b) = true := by rw [beq_iff_eq]; omega
            clear hc
            go_wp2
            go_round
            case rel => exact ⟨k + 1, x + 1, by omega, by go_num, by go_num, by omega, HX2⟩
            case measure => simp [intOf]; omega
          · have HX2 : Hid (x = cntBk D i (k + 1) b) := Lib.hid (by rw [HXN.out, if_neg hc, ← HX.out])
            have d1 : ((s[i].toNat : Int) == (b : Int)) = false := by rw [beq_eq_false_iff_ne]; omega
            have d2 : (s[i].toNat == b) = false := by rw [beq_eq_false_iff_ne]; omega
            clear hc
            go_wp2
            go_round
            case rel => exact ⟨k + 1, x, by omega, by go_num, rfl, by omega, HX2⟩
            case measure => simp [intOf]; omega
        · obtain rfl : k = D.length := by omega
          have HXE : Hid (x = cntB D i b) := Lib.hid (by rw [HX.out]; unfold cntBk; rw [List.take_length])
          by_cases hc : most < x
          · have HB2 : Hid (ByteSt (cntB D i) (b + 1) b x) := Lib.hid (by rw [HXE.out]; exact HY.out (by rw [← HXE.out]; exact hc))
            have d1 : decide ((most : Int) < (x : Int)) = true := decide_eq_true (by omega)
            have d2 : decide (most < x) = true := decide_eq_true hc
            clear HY HN HX HXE HB
            go_wp2
            go_round
            case rel => exact ⟨b + 1, x, b, by omega, by go_num, rfl, rfl, by omega, hlt, HB2⟩
            case measure => simp [intOf]; omega
          · have HB2 : Hid (ByteSt (cntB D i) (b + 1) best most) := Lib.hid (HN.out (by rw [← HXE.out]; exact hc))
            have d1 : decide ((most : Int) < (x : Int)) = false := decide_eq_false (by omega)
            have d2 : decide (most < x) = false := decide_eq_false hc
            clear HY HN HX HXE HB
            go_wp2
            go_round
            case rel => exact ⟨b + 1, most, best, by omega, by go_num, rfl, rfl, hm, hbe, HB2⟩
            case measure => simp [intOf]; omega
    · obtain rfl : b = 256 := by omega
      have HE : Hid (byteV D i = best) := Lib.hid (byte_end HB.out).symm
      go_wp2
      rw [HE.out]
      exact bodyPost_ret (v := .tuple #[.int .u8 best, .bool (most == D.length)]) (by simp [results, Try.results131, go_sem]; first | done | rfl | (rw [Bool.eq_iff_iff, beq_iff_eq, beq_iff_eq]; omega)) rfl (by cases (most == D.length) <;> simp)
set_option maxRecDepth 20000 in
set_option maxHeartbeats 4000000 in
theorem vote_s (B : Nat) (D : List ByteArray) (v : Value) (w : World) (h : StringL B w v D) (hn : D.length ≤ 1048576) (h0 : D ≠ []) (n : Nat) (hs : ∀ s ∈ D, s.size = n) (hn2 : n ≤ 1048576) :
    Calls Try.prog 112 #[v] w fun e w' => ∃ A m c, e = .returned (.tuple #[.string (strN (voteV D)), .slice A m c]) ∧ Below w.heap.size w w' := by
  obtain ⟨i0, hi, hz0, hz1, hz2⟩ := info_parts icell_info
  obtain ⟨i1, ji, jz0, jz1, jz2⟩ := info_parts ucell_info
  have hl : 0 < D.length := List.length_pos_iff.2 h0
  obtain ⟨s0, hs0⟩ : ∃ s, D[0]? = some s := ⟨D[0], List.getElem?_eq_getElem hl⟩
  have hs00 : s0.size = n := hs s0 (List.mem_of_getElem? hs0)
  subst hs00
  have HBY := Lib.hid (fun i (hi : i < s0.size) W (hb : Below w.heap.size w W) => byte_s B D v i W (OwnL.below h hb) hn h0 (fun s hs' => by have := hs s hs'; omega) (by omega))
  have HVV : Hid (voteV D = (List.range s0.size).map (byteV D)) := Lib.hid (by unfold voteV; rw [List.getD_eq_getElem?_getD, hs0]; rfl)
  obtain ⟨A, c, rfl, hA⟩ := OwnL.shape h
  obtain ⟨g, rfl, _, hg⟩ := hA.resolve_left h0
  have p0 := StringL.at_ h rfl hs0
  clear hA h h0 hs0 hs
  have hb0 : Below w.heap.size w ((w.alloc (.cells #[] 5)).alloc (.cells #[] 2)) := Below.alloc (Below.alloc (Below.refl _ _) (Nat.le_refl _) _) (by simp) _
  have HO0 : Hid (BytesL w.heap.size ((w.alloc (.cells #[] 5)).alloc (.cells #[] 2)) (.slice (some ⟨w.heap.size, 0, none⟩) 0 0) []) := Lib.hid (OwnL.alloc (OwnL.of_empty w (Nat.le_refl _)) _)
  have HK0 : Hid (Int64L w.heap.size ((w.alloc (.cells #[] 5)).alloc (.cells #[] 2)) (.slice (some ⟨w.heap.size + 1, 0, none⟩) 0 0) []) := Lib.hid (by have := OwnL.of_empty (f := icell) (z := 1) (α := Int) (e := 2) (B := w.heap.size) (w.alloc (.cells #[] 5)) (by simp); simpa using this)
  have HD0 : Hid (∀ b, (Value.slice (some ⟨w.heap.size, 0, none⟩) 0 0).ownBlock = some b → (Value.slice (some ⟨w.heap.size + 1, 0, none⟩) 0 0).ownBlock ≠ some b) := Lib.hid fun b h1 h2 => by simp [Value.ownBlock] at h1 h2; omega
  go_enter Try.func112, Try.ntmps112
  go_wp2
  go_loopw [6, 4, 5] (fun i x y wr => ∃ (k gx cx : Nat) (ks : List Int), k ≤ s0.size ∧ i = .int .i64 k ∧ x = .slice (some ⟨gx, 0, none⟩) k cx ∧ ks.length ≤ k ∧ Below w.heap.size w wr ∧ Hid (BytesL w.heap.size wr x ((List.range k).map (byteV D))) ∧ Hid (Int64L w.heap.size wr y ks) ∧ Hid (∀ b, x.ownBlock = some b → y.ownBlock ≠ some b)) (fun i _ _ _ => s0.size - (intOf i).toNat)
  case atStart => exact ⟨0, w.heap.size, 0, [], by omega, rfl, rfl, by simp, hb0, HO0, HK0, HD0⟩
  case round =>
    clear HO0 HK0 HD0 hb0
    obtain ⟨k, gx, cx, ks, hk, rfl, rfl, hks, hb, HO, HK, HD⟩ := hrel
    have zr := hb.size
    have q0 := (hb.cell (p := ⟨g, 0, none⟩) hg).trans p0
    obtain ⟨Ay, cy, rfl, hAy⟩ := OwnL.shape HK.out
    by_cases hlt : k < s0.size
    · have HB := Lib.hid (HBY.out k hlt wr hb)
      have hbv := byteV_lt D k
      have HN : Hid ((List.range (k + 1)).map (byteV D) = (List.range k).map (byteV D) ++ [byteV D k]) := Lib.hid (by rw [List.range_succ, List.map_append]; rfl)
      generalize byteV D k = bv at *
      have hl1 : ((List.range k).map (byteV D)).length + 1 ≤ 16777216 := by simp; omega
      have hl2 : ks.length + 1 ≤ 16777216 := by omega
      have hks1 : (ks ++ [(k : Int)]).length = ks.length + 1 := by simp
      have hlk1 : ((List.range k).map (byteV D) ++ [bv]).length = k + 1 := by simp
      have hbase : w.heap.size ≤ (wr.alloc (.cells #[.int .u8 (bv : Nat)] 5)).heap.size := by simp; omega
      go_wp2_with (fail)
      refine HB.out.mono ?_; rintro e w1 ⟨t, rfl, rfl⟩
      cases t
      all_goals
        go_wp2_with (first
          | (at_builtin; refine wpList_app1at ucell 1 ucell_len _ rfl _ _ _ rfl w.heap.size 5 i1 (.int .u8 0) 1 Try.underlying70 ji jz0 jz1 jz2 rfl (by decide) _ ((List.range k).map (byteV D)) rfl (HO.out.alloc _) _ 1 bv rfl ?_ (by simp [ucell, Value.oneCell']) hl1 (by decide) hbase ?_; (· intro j u hu; cases j with | zero => (simp [ucell] at hu; subst hu; simp) | succ j => simp [ucell] at hu); intro v8 w8 how8 hg8' hbl8'; have hg8 : (wr.alloc (.cells #[.int .u8 (bv : Nat)] 5)).grownBy w8 (Value.slice (some ⟨gx, 0, none⟩) k cx).ownBlock := hg8'; have hbl8 : v8.ownBlock = (Value.slice (some ⟨gx, 0, none⟩) k cx).ownBlock ∨ v8.ownBlock = some (wr.alloc (.cells #[.int .u8 (bv : Nat)] 5)).heap.size := hbl8'; have hb8 : Below w.heap.size w w8 := own_grown_below (HO.out.alloc (.cells #[.int .u8 (bv : Nat)] 5)) (Below.alloc hb zr _) hg8 (Nat.le_refl _) hbase; have z8 := hg8.size; have HO8 := Lib.hid how8; have HK8 := Lib.hid (OwnL.kept (OwnL.alloc HK.out (.cells #[.int .u8 (bv : Nat)] 5)) hg8 (by (cases h1 : (Value.slice Ay ks.length cy).ownBlock with | none => exact .inl rfl | some q => exact .inr fun he => HD.out q he.symm h1))); have HD8 : Hid (∀ b, v8.ownBlock = some b → (Value.slice Ay ks.length cy).ownBlock ≠ some b) := Lib.hid (fun b h1 h2 => hbl8.elim (fun h => HD.out b (by rw [← h]; exact h1) h2) (fun h => by have h3 := (World.ownsRow.lt HK.out b h2).2; rw [h] at h1; have h4 := Option.some.inj h1; simp at h4; omega)); obtain ⟨A8, c8, hv8, hA8⟩ := OwnL.shape how8; obtain ⟨g8, rfl, _, _⟩ := hA8.resolve_left (by simp); rw [hlk1] at hv8; subst hv8; clear hA8 hg8' hbl8' how8 hg8 hbl8)
          | (at_builtin; refine wpList_app1at icell 1 icell_len _ rfl _ _ _ rfl w.heap.size 2 i0 (.int .i64 0) 8 Try.underlying32 hi hz0 hz1 hz2 rfl (by decide) _ ks rfl (HK8.out.alloc _) _ 1 (k : Int) rfl ?_ (by simp [icell, Value.oneCell']) hl2 (by decide) (Nat.le_trans hb8.size (by simp)) ?_; (· intro j u hu; cases j with | zero => (simp [icell] at hu; subst hu; simp) | succ j => simp [icell] at hu); intro v9 w9 how9 hg9' hbl9'; have hg9 : (w8.alloc (.cells #[.int .i64 (k : Int)] 2)).grownBy w9 (Value.slice Ay ks.length cy).ownBlock := hg9'; have hbl9 : v9.ownBlock = (Value.slice Ay ks.length cy).ownBlock ∨ v9.ownBlock = some (w8.alloc (.cells #[.int .i64 (k : Int)] 2)).heap.size := hbl9'; have hb9 : Below w.heap.size w w9 := own_grown_below (HK8.out.alloc (.cells #[.int .i64 (k : Int)] 2)) (Below.alloc hb8 hb8.size _) hg9 (Nat.le_refl _) (Nat.le_trans hb8.size (by simp)); have HK9 := Lib.hid how9; have HO9 := Lib.hid (OwnL.kept (OwnL.alloc HO8.out (.cells #[.int .i64 (k : Int)] 2)) hg9 (by (cases h1 : (Value.slice (some ⟨g8, 0, none⟩) (k + 1) c8).ownBlock with | none => exact .inl rfl | some q => exact .inr fun he => HD8.out q h1 he.symm))); have HD9 : Hid (∀ b, (Value.slice (some ⟨g8, 0, none⟩) (k + 1) c8).ownBlock = some b → v9.ownBlock ≠ some b) := Lib.hid (fun b h1 h2 => hbl9.elim (fun h => HD8.out b h1 (by rw [← h]; exact h2)) (fun h => by have h3 := (World.ownsRow.lt HO8.out b h1).2; rw [h] at h2; have h4 := Option.some.inj h2; simp at h4; omega)); obtain ⟨A9, c9, hv9, _⟩ := OwnL.shape how9; rw [hks1] at hv9; subst hv9; clear hg9' hbl9' how9 hg9 hbl9))
        go_roundw
        case rel => first | exact ⟨k + 1, g8, c8, _, by omega, by go_num, by first | rfl | simp, by simp; omega, hb9, by rw [HN.out]; exact HO9, HK9, HD9⟩ | exact ⟨k + 1, g8, c8, _, by omega, by go_num, by first | rfl | simp, by omega, hb8, by rw [HN.out]; exact HO8, HK8, HD8⟩
        case measure => simp [intOf]; omega
    · obtain rfl : k = s0.size := by omega
      rw [← HVV.out] at HO
      have hvl : (voteV D).length = s0.size := by rw [HVV.out]; simp
      have hst := Buf.str (n := s0.size) (c := cx) (BytesL.buf HO.out hvl) hvl
      clear HO HK HD
      go_wp2_with (fail)
      exact bodyPost_ret (v := .tuple #[.string (strN (voteV D)), .slice Ay ks.length cy]) (by simp [results, Try.results112, go_sem]) rfl ⟨_, _, _, rfl, hb⟩
end Go.Proofs.Ytignjjkldmninaa
namespace Go.Proofs.Ytignjjkldmninaa
open Go.RowKit
/-- a merged sector, where it comes from and how many agree -/
def mgG (l : List Sec) : Sec × Int × Int :=
  (⟨mostS (stF 1 l), if cntF (mostS (stF 1 l)) (stF 1 l) < (stF 1 l).length then 4 else 1⟩, firF 1 (mostS (stF 1 l)) 0 l, cntF (mostS (stF 1 l)) (stF 1 l))
def mgW (l : List Sec) : Sec × Int × Int := (⟨mostS (stF 4 l), 4⟩, firF 4 (mostS (stF 4 l)) 0 l, cntF (mostS (stF 4 l)) (stF 4 l))
def mgB (l : List Sec) : Sec × Int × Int := (⟨strN (voteV (stF 2 l)), 2⟩, firF 2 (strN (voteV (stF 2 l))) 0 l, cntF (strN (voteV (stF 2 l))) (stF 2 l))
def mgM (l : List Sec) : Sec × Int × Int := (⟨strN (List.replicate (l.getD 0 ⟨.empty, 0⟩).data.size 0), 3⟩, -1, 0)
def mgS (l : List Sec) : Sec × Int × Int := if stF 1 l ≠ [] then mgG l else if stF 4 l ≠ [] then mgW l else if stF 2 l ≠ [] then mgB l else mgM l
def mgV (x : Sec × Int × Int) : Value := .tuple #[.agg #[.string x.1.data, .int .i64 x.1.state], .int .i64 x.2.1, .int .i64 x.2.2]
theorem mgS_g {l : List Sec} (h : stF 1 l ≠ []) : mgS l = mgG l := by unfold mgS; rw [if_pos h]
theorem mgS_w {l : List Sec} (h : stF 1 l = []) (h2 : stF 4 l ≠ []) : mgS l = mgW l := by unfold mgS; rw [if_neg (by simp [h]), if_pos h2]
theorem mgS_b {l : List Sec} (h : stF 1 l = []) (h2 : stF 4 l = []) (h3 : stF 2 l ≠ []) : mgS l = mgB l := by unfold mgS; rw [if_neg (by simp [h]), if_neg (by simp [h2]), if_pos h3]
theorem mgS_m {l : List Sec} (h : stF 1 l = []) (h2 : stF 4 l = []) (h3 : stF 2 l = []) : mgS l = mgM l := by unfold mgS; rw [if_neg (by simp [h]), if_neg (by simp [h2]), if_neg (by simp [h3])]
theorem stF_sizes {st : Int} {l : List Sec} {n : Nat} (h : ∀ s ∈ l, s.data.size = n) : ∀ b ∈ stF st l, b.size = n := by
  induction l with
  | nil => intro b hb; simp [stF] at hb
  | cons e r ih =>
    intro b hb
    unfold stF at hb
    split at hb
    · rcases List.mem_cons.1 hb with rfl | hb
      · exact h e (by simp)
      · exact ih (fun s hs => h s (by simp [hs])) b hb
    · exact ih (fun s hs => h s (by simp [hs])) b hb
theorem region_sm {P : Program} {id : Nat} {Q : Exit → Act → World → Prop} {a : Act} {w : World} {l : List Oper} (n : Nat) (hm : P.follows .mixedOrders = true) (hB : Region.lexTailB .any l.toArray n = true)
    (h : ∀ w6, w6 = w.drew → wpStill P l.toArray w6 (fun a' => wpList P l.toArray Q (l.drop n) a' w6) (l.take n) a) : (Code.region id l.toArray true).wp P Q a w := wp_region_still_tail n hm hB (h _ rfl)
theorem call_back {P : Program} {f : FuncId} {args : Array Value} {w : World} {v : Value} (h : Calls P f args w fun e w' => e = .returned v ∧ w = w') : Calls P f args w fun e w' => e = .returned v ∧ w' = w := h.mono fun _ _ ⟨a, b⟩ => ⟨a, b.symm⟩
theorem eq_st_far2 {w : World} {b o g o' : Nat} {u v : Value} (h : w.cell? ⟨b, o, none⟩ = some v) (hn : b ≠ g) : (w.setCell ⟨g, o', none⟩ u).cell? ⟨b, o, none⟩ = some v := (World.cell?_setCell_other _ _ _ _ (by intro e; injection e with e _ _; omega)).trans h
set_option maxRecDepth 20000 in
set_option maxHeartbeats 4000000 in
theorem lsec_s (B : Nat) (l : List Sec) (v : Value) (w : World) (h : SecOwn B w v l) (hn : l.length ≤ 1048576) (h0 : l ≠ []) (n : Nat) (hs : ∀ s ∈ l, s.data.size = n) (hn2 : n ≤ 1048576) :
    Calls Try.prog 78 #[v] w fun e w' => e = .returned (mgV (mgS l)) ∧ Below w.heap.size w w' := by
  have HS1 := Lib.hid (fun W (hb : Below w.heap.size w W) => state_s B v l 1 W hn (OwnL.below h hb))
  have HS4 := Lib.hid (fun W (hb : Below w.heap.size w W) => state_s B v l 4 W hn (OwnL.below h hb))
  have HS2 := Lib.hid (fun W (hb : Below w.heap.size w W) => state_s B v l 2 W hn (OwnL.below h hb))
  have HFI := Lib.hid (fun st d W (hb : Below w.heap.size w W) => first_s B l v st d W (OwnL.below h hb) hn)
  have hg := stF_len 1 l
  have hw := stF_len 4 l
  have hb' := stF_len 2 l
  have HBS := Lib.hid (stF_sizes (st := 2) hs)
  obtain ⟨A, c, rfl, hA⟩ := OwnL.shape h
  have HGL : Hid (l ≠ [] → ∃ gl, A = some ⟨gl, 0, none⟩ ∧ gl < w.heap.size ∧ ∀ e, l[0]? = some e → w.cell? ⟨gl, 0, none⟩ = some (.string e.data)) := Lib.hid fun h1 => by
    obtain ⟨gl, rfl, _, hgl⟩ := hA.resolve_left h1
    exact ⟨gl, rfl, hgl, fun e he => by have := OwnL.cell Sec.len h he (j := 0) rfl; simpa using this⟩
  clear hA h
  have hb0 : Below w.heap.size w (w.alloc (.cells #[.string .empty, .int .i64 0] 48)) := Below.alloc (Below.refl _ _) (Nat.le_refl _) _
  have hr : ∀ W, Below (w.heap.size + 1) (w.alloc (.cells #[.string .empty, .int .i64 0] 48)) W → W.cell? ⟨w.heap.size, 0, none⟩ = some (.string .empty) ∧ W.cell? ⟨w.heap.size, 1, none⟩ = some (.int .i64 0) ∧ ∀ j, W.frozen? ⟨w.heap.size, j, none⟩ = false := fun W hW =>
    ⟨(hW.cell (p := ⟨w.heap.size, 0, none⟩) (Nat.lt_succ_self _)).trans (by simp [go_sem]), (hW.cell (p := ⟨w.heap.size, 1, none⟩) (Nat.lt_succ_self _)).trans (by simp [go_sem]), fun j => (hW.frozen (p := ⟨w.heap.size, j, none⟩) (Nat.lt_succ_self _)).trans (by simp [go_sem])⟩
  have HR := Lib.hid hr
  clear hr
  by_cases hG : stF 1 l ≠ []
  · have HV := Lib.hid (congrArg mgV (mgS_g hG))
    unfold mgG at HV
    have hgl : 0 < (stF 1 l).length := List.length_pos_iff.2 hG
    have d1 : decide (0 < (stF 1 l).length) = true := decide_eq_true hgl
    have HM := Lib.hid (fun v W (h : StringL 0 W v (stF 1 l)) => most_s 0 (stF 1 l) v W h (by omega) hG)
    have HC := Lib.hid (fun v W (h : StringL 0 W v (stF 1 l)) => count_s 0 (stF 1 l) v (mostS (stF 1 l)) W h (by omega))
    generalize stF 1 l = G at *
    generalize stF 4 l = Wk at *
    generalize stF 2 l = Bd at *
    generalize mostS G = d at *
    generalize cntF d G = x at *
    clear HBS
    go_enter Try.func78, Try.ntmps78
    go_wp2_with (fail)
    refine (HS1.out _ hb0).mono ?_; rintro e w1 ⟨v1, rfl, o1, hb1⟩
    have z0 := hb0.size
    have hB1 := hb0.trans (hb1.mono z0)
    have hR1 : Below (w.heap.size + 1) (w.alloc (.cells #[.string .empty, .int .i64 0] 48)) w1 := hb1.mono (by simp)
    have z1 := hB1.size
    have z1' := hR1.size
    obtain ⟨A1, c1, rfl, _⟩ := OwnL.shape o1
    go_wp2_with (fail)
    refine (HS4.out _ hB1).mono ?_; rintro e w2 ⟨v2, rfl, o2, hb2⟩
    have hB2 := hB1.trans (hb2.mono z1)
    have hR2 := hR1.trans (hb2.mono (by simp at z1'; omega))
    have z2 := hB2.size
    have z2' := hb2.size
    obtain ⟨A2, c2, rfl, _⟩ := OwnL.shape o2
    go_wp2_with (fail)
    refine (HS2.out _ hB2).mono ?_; rintro e w3 ⟨v3, rfl, o3, hb3⟩
    have hB3 := hB2.trans (hb3.mono z2)
    have hR3 := hR2.trans (hb3.mono (by simp at z1'; omega))
    have hO1 := OwnL.base (B' := 0) (OwnL.below (OwnL.below o1 hb2) hb3) (Nat.zero_le _)
    have hO2 := OwnL.base (B' := 0) (OwnL.below o2 hb3) (Nat.zero_le _)
    have hO3 := OwnL.base (B' := 0) o3 (Nat.zero_le _)
    have z3 := hb3.size
    have z03 : w.heap.size + 1 ≤ w3.heap.size := by simp at z1'; omega
    obtain ⟨A3, c3, rfl, _⟩ := OwnL.shape o3
    have HO1 := Lib.hid hO1
    have HO2 := Lib.hid hO2
    have HO3 := Lib.hid hO3
    clear o1 o2 o3 hO1 hO2 hO3 hb1 hb2 hb3 hB1 hB2 hR1 hR2 z1 z1' z2 z2' z3 z0 hb0
    go_wp2_with (fail)
    refine (HM.out _ _ HO1.out).mono ?_; rintro e w4 ⟨rfl, rfl⟩
    have q0 : (w3.alloc (.cells #[.string d, .int .i64 1] 48)).cell? ⟨w3.heap.size, 0, none⟩ = some (.string d) := by simp [go_sem]
    have q1 : (w3.alloc (.cells #[.string d, .int .i64 1] 48)).cell? ⟨w3.heap.size, 1, none⟩ = some (.int .i64 1) := by simp [go_sem]
    have qf : (w3.alloc (.cells #[.string d, .int .i64 1] 48)).frozen? ⟨w3.heap.size, 1, none⟩ = false := by simp [go_sem]
    have hBb : Below w.heap.size w (w3.alloc (.cells #[.string d, .int .i64 1] 48)) := Below.alloc hB3 (by omega) _
    have hRb : Below (w.heap.size + 1) (w.alloc (.cells #[.string .empty, .int .i64 0] 48)) (w3.alloc (.cells #[.string d, .int .i64 1] 48)) := Below.alloc hR3 (by omega) _
    have HOb := Lib.hid (OwnL.alloc HO1.out (.cells #[.string d, .int .i64 1] 48))
    clear hB3 hR3
    go_wp2_with (fail)
    generalize (w3.alloc (.cells #[.string d, .int .i64 1] 48)) = Wb at *
    refine (HC.out _ _ HOb.out).mono ?_; rintro e w5 ⟨rfl, rfl⟩
    by_cases hx : x < G.length
    · rw [if_pos hx] at HV
      have d2 : decide ((x : Int) < (G.length : Int)) = true := decide_eq_true (by omega)
      have d3 : decide (x < G.length) = true := decide_eq_true hx
      have c0 : (Wb.setCell ⟨w3.heap.size, 1, none⟩ (.int .i64 4)).drew.cell? ⟨w3.heap.size, 0, none⟩ = some (.string d) := (World.cell?_setCell_other _ _ _ _ (by intro e; injection e with _ e _; omega)).trans q0
      have c1 : (Wb.setCell ⟨w3.heap.size, 1, none⟩ (.int .i64 4)).drew.cell? ⟨w3.heap.size, 1, none⟩ = some (.int .i64 4) := World.cell?_setCell_same _ _ _ q1
      have hB9 : Below w.heap.size w (Wb.setCell ⟨w3.heap.size, 1, none⟩ (.int .i64 4)).drew := (Below.setCell hBb (p := ⟨w3.heap.size, 1, none⟩) (by show w.heap.size ≤ w3.heap.size; omega) _).drew
      have hR9 : Below (w.heap.size + 1) (w.alloc (.cells #[.string .empty, .int .i64 0] 48)) (Wb.setCell ⟨w3.heap.size, 1, none⟩ (.int .i64 4)).drew := (Below.setCell hRb (p := ⟨w3.heap.size, 1, none⟩) (by show w.heap.size + 1 ≤ w3.heap.size; omega) _).drew
      obtain ⟨r0, r1, rf⟩ := HR.out _ hR9
      have rf0 := rf 0
      have rf1 := rf 1
      clear hBb hRb hx HR rf
      go_wp2_with (fail)
      generalize (Wb.setCell ⟨w3.heap.size, 1, none⟩ (.int .i64 4)) = W9 at *
      have rr0 : W9.cell? ⟨w.heap.size, 0, none⟩ = some (.string .empty) := r0
      have rr1 : W9.cell? ⟨w.heap.size, 1, none⟩ = some (.int .i64 0) := r1
      have rf3 : W9.frozen? ⟨w.heap.size, 0, none⟩ = false := rf0
      have rf4 : W9.frozen? ⟨w.heap.size, 1, none⟩ = false := rf1
      have hne : w3.heap.size ≠ w.heap.size := by omega
      go_region_held3 (fun w' => w'.cell? ⟨w3.heap.size, 0, none⟩ = some (.string d) ∧ w'.cell? ⟨w3.heap.size, 1, none⟩ = some (.int .i64 4))
        (first | exact ⟨c0, c1⟩ | exact ⟨(eq_st_far2 ((eq_st_far2 c0 hne)) hne), (eq_st_far2 ((eq_st_far2 c1 hne)) hne)⟩ | go_keep)
        (first | (go_at_call 111; refine (HFI.out 1 d _ hB9).mono ?_; rintro e w7 ⟨rfl, rfl⟩))
      all_goals
        have s0 := World.cell?_setCell_other (W9.setCell ⟨w.heap.size, 0, none⟩ (.string d)) ⟨w.heap.size, 1, none⟩ ⟨w.heap.size, 0, none⟩ (.int .i64 4) (by intro e; injection e with _ e _; omega)
        rw [World.cell?_setCell_same _ _ _ rr0] at s0
        have s1 := World.cell?_setCell_same (W9.setCell ⟨w.heap.size, 0, none⟩ (.string d)) ⟨w.heap.size, 1, none⟩ (.int .i64 4) ((World.cell?_setCell_other _ _ _ _ (by intro e; injection e with _ e _; omega)).trans rr1)
        have hBW : Below w.heap.size w ((W9.setCell ⟨w.heap.size, 0, none⟩ (.string d)).setCell ⟨w.heap.size, 1, none⟩ (.int .i64 4)).drew := (Below.setCell (Below.setCell (show Below w.heap.size w W9 from ⟨hB9.os, hB9.tape, hB9.output, hB9.size, hB9.block⟩) (p := ⟨w.heap.size, 0, none⟩) (Nat.le_refl _) _) (p := ⟨w.heap.size, 1, none⟩) (Nat.le_refl _) _).drew
        go_wp2
        rw [HV.out]
        exact bodyPost_ret (v := .tuple #[.agg #[.string d, .int .i64 4], .int .i64 (firF 1 d 0 l), .int .i64 x]) (by simp [results, Try.results78, go_sem, s0, s1]; try done) rfl ⟨rfl, hBW⟩
    · rw [if_neg hx] at HV
      have d2 : decide ((x : Int) < (G.length : Int)) = false := decide_eq_false (by omega)
      have d3 : decide (x < G.length) = false := decide_eq_false hx
      have c0 : Wb.drew.cell? ⟨w3.heap.size, 0, none⟩ = some (.string d) := q0
      have c1 : Wb.drew.cell? ⟨w3.heap.size, 1, none⟩ = some (.int .i64 1) := q1
      have hB9 : Below w.heap.size w Wb.drew := hBb.drew
      have hR9 : Below (w.heap.size + 1) (w.alloc (.cells #[.string .empty, .int .i64 0] 48)) Wb.drew := hRb.drew
      obtain ⟨r0, r1, rf⟩ := HR.out _ hR9
      have rf0 := rf 0
      have rf1 := rf 1
      clear hBb hRb hx HR rf
      go_wp2_with (fail)
      generalize Wb = W9 at *
      have rr0 : W9.cell? ⟨w.heap.size, 0, none⟩ = some (.string .empty) := r0
      have rr1 : W9.cell? ⟨w.heap.size, 1, none⟩ = some (.int .i64 0) := r1
      have rf3 : W9.frozen? ⟨w.heap.size, 0, none⟩ = false := rf0
      have rf4 : W9.frozen? ⟨w.heap.size, 1, none⟩ = false := rf1
      have hne : w3.heap.size ≠ w.heap.size := by omega
      go_region_held3 (fun w' => w'.cell? ⟨w3.heap.size, 0, none⟩ = some (.string d) ∧ w'.cell? ⟨w3.heap.size, 1, none⟩ = some (.int .i64 1))
        (first | exact ⟨c0, c1⟩ | exact ⟨(eq_st_far2 ((eq_st_far2 c0 hne)) hne), (eq_st_far2 ((eq_st_far2 c1 hne)) hne)⟩ | go_keep)
        (first | (go_at_call 111; refine (HFI.out 1 d _ hB9).mono ?_; rintro e w7 ⟨rfl, rfl⟩))
      all_goals
        have s0 := World.cell?_setCell_other (W9.setCell ⟨w.heap.size, 0, none⟩ (.string d)) ⟨w.heap.size, 1, none⟩ ⟨w.heap.size, 0, none⟩ (.int .i64 1) (by intro e; injection e with _ e _; omega)
        rw [World.cell?_setCell_same _ _ _ rr0] at s0
        have s1 := World.cell?_setCell_same (W9.setCell ⟨w.heap.size, 0, none⟩ (.string d)) ⟨w.heap.size, 1, none⟩ (.int .i64 1) ((World.cell?_setCell_other _ _ _ _ (by intro e; injection e with _ e _; omega)).trans rr1)
        have hBW : Below w.heap.size w ((W9.setCell ⟨w.heap.size, 0, none⟩ (.string d)).setCell ⟨w.heap.size, 1, none⟩ (.int .i64 1)).drew := (Below.setCell (Below.setCell (show Below w.heap.size w W9 from ⟨hB9.os, hB9.tape, hB9.output, hB9.size, hB9.block⟩) (p := ⟨w.heap.size, 0, none⟩) (Nat.le_refl _) _) (p := ⟨w.heap.size, 1, none⟩) (Nat.le_refl _) _).drew
        go_wp2
        rw [HV.out]
        exact bodyPost_ret (v := .tuple #[.agg #[.string d, .int .i64 1], .int .i64 (firF 1 d 0 l), .int .i64 x]) (by simp [results, Try.results78, go_sem, s0, s1]; try done) rfl ⟨rfl, hBW⟩
  · have hG' : stF 1 l = [] := Classical.not_not.1 hG
    by_cases hW : stF 4 l ≠ []
    · have HV := Lib.hid (congrArg mgV (mgS_w hG' hW))
      unfold mgW at HV
      have hgl : 0 < (stF 4 l).length := List.length_pos_iff.2 hW
      have d1 : decide (0 < (stF 4 l).length) = true := decide_eq_true hgl
      have HM := Lib.hid (fun v W (h : StringL 0 W v (stF 4 l)) => most_s 0 (stF 4 l) v W h (by omega) hW)
      have HC := Lib.hid (fun v W (h : StringL 0 W v (stF 4 l)) => count_s 0 (stF 4 l) v (mostS (stF 4 l)) W h (by omega))
      rw [hG'] at HS1
      generalize stF 4 l = Wk at *
      generalize stF 2 l = Bd at *
      generalize mostS Wk = d at *
      generalize cntF d Wk = x at *
      clear HBS hg hG' hG
      go_enter Try.func78, Try.ntmps78
      go_wp2_with (fail)
      refine (HS1.out _ hb0).mono ?_; rintro e w1 ⟨v1, rfl, o1, hb1⟩
      have z0 := hb0.size
      have hB1 := hb0.trans (hb1.mono z0)
      have hR1 : Below (w.heap.size + 1) (w.alloc (.cells #[.string .empty, .int .i64 0] 48)) w1 := hb1.mono (by simp)
      have z1 := hB1.size
      have z1' := hR1.size
      obtain ⟨A1, c1, rfl, _⟩ := OwnL.shape o1
      go_wp2_with (fail)
      refine (HS4.out _ hB1).mono ?_; rintro e w2 ⟨v2, rfl, o2, hb2⟩
      have hB2 := hB1.trans (hb2.mono z1)
      have hR2 := hR1.trans (hb2.mono (by simp at z1'; omega))
      have z2 := hB2.size
      have z2' := hb2.size
      obtain ⟨A2, c2, rfl, _⟩ := OwnL.shape o2
      go_wp2_with (fail)
      refine (HS2.out _ hB2).mono ?_; rintro e w3 ⟨v3, rfl, o3, hb3⟩
      have hB3 := hB2.trans (hb3.mono z2)
      have hR3 := hR2.trans (hb3.mono (by simp at z1'; omega))
      have hO1 := OwnL.base (B' := 0) (OwnL.below (OwnL.below o1 hb2) hb3) (Nat.zero_le _)
      have hO2 := OwnL.base (B' := 0) (OwnL.below o2 hb3) (Nat.zero_le _)
      have hO3 := OwnL.base (B' := 0) o3 (Nat.zero_le _)
      have z3 := hb3.size
      have z03 : w.heap.size + 1 ≤ w3.heap.size := by simp at z1'; omega
      obtain ⟨A3, c3, rfl, _⟩ := OwnL.shape o3
      have HO1 := Lib.hid hO1
      have HO2 := Lib.hid hO2
      have HO3 := Lib.hid hO3
      clear o1 o2 o3 hO1 hO2 hO3 hb1 hb2 hb3 hB1 hB2 hR1 hR2 z1 z1' z2 z2' z3 z0 hb0
      go_wp2_with (fail)
      refine (HM.out _ _ HO2.out).mono ?_; rintro e w4 ⟨rfl, rfl⟩
      have q0 : (w3.alloc (.cells #[.string d, .int .i64 4] 48)).cell? ⟨w3.heap.size, 0, none⟩ = some (.string d) := by simp [go_sem]
      have q1 : (w3.alloc (.cells #[.string d, .int .i64 4] 48)).cell? ⟨w3.heap.size, 1, none⟩ = some (.int .i64 4) := by simp [go_sem]
      have hBb : Below w.heap.size w (w3.alloc (.cells #[.string d, .int .i64 4] 48)) := Below.alloc hB3 (by omega) _
      have hRb : Below (w.heap.size + 1) (w.alloc (.cells #[.string .empty, .int .i64 0] 48)) (w3.alloc (.cells #[.string d, .int .i64 4] 48)) := Below.alloc hR3 (by omega) _
      have HOb := Lib.hid (OwnL.below (w' := (w3.alloc (.cells #[.string d, .int .i64 4] 48)).drew) HO2.out (Below.alloc (Below.refl _ _) (Nat.le_refl _) _).drew)
      clear hB3 hR3
      have c0 : (w3.alloc (.cells #[.string d, .int .i64 4] 48)).drew.cell? ⟨w3.heap.size, 0, none⟩ = some (.string d) := q0
      have c1 : (w3.alloc (.cells #[.string d, .int .i64 4] 48)).drew.cell? ⟨w3.heap.size, 1, none⟩ = some (.int .i64 4) := q1
      have hB9 := hBb.drew
      have hR9 := hRb.drew
      obtain ⟨r0, r1, rf⟩ := HR.out _ hR9
      have rf0 := rf 0
      have rf1 := rf 1
      clear hBb hRb HR rf
      go_wp2_with (fail)
      generalize (w3.alloc (.cells #[.string d, .int .i64 4] 48)) = W9 at *
      have rr0 : W9.cell? ⟨w.heap.size, 0, none⟩ = some (.string .empty) := r0
      have rr1 : W9.cell? ⟨w.heap.size, 1, none⟩ = some (.int .i64 0) := r1
      have rf3 : W9.frozen? ⟨w.heap.size, 0, none⟩ = false := rf0
      have rf4 : W9.frozen? ⟨w.heap.size, 1, none⟩ = false := rf1
      have hne : w3.heap.size ≠ w.heap.size := by omega
      go_region_held3 (fun w' => w'.cell? ⟨w3.heap.size, 0, none⟩ = some (.string d) ∧ w'.cell? ⟨w3.heap.size, 1, none⟩ = some (.int .i64 4))
        (first | exact ⟨c0, c1⟩ | exact ⟨(eq_st_far2 ((eq_st_far2 c0 hne)) hne), (eq_st_far2 ((eq_st_far2 c1 hne)) hne)⟩ | go_keep)
        (first | (go_at_call 111; refine (HFI.out 4 d _ hB9).mono ?_; rintro e w7 ⟨rfl, rfl⟩) | (go_at_call 90; refine (HC.out _ _ HOb.out).mono ?_; rintro e w8 ⟨rfl, rfl⟩))
      all_goals
        have s0 := World.cell?_setCell_other (W9.setCell ⟨w.heap.size, 0, none⟩ (.string d)) ⟨w.heap.size, 1, none⟩ ⟨w.heap.size, 0, none⟩ (.int .i64 4) (by intro e; injection e with _ e _; omega)
        rw [World.cell?_setCell_same _ _ _ rr0] at s0
        have s1 := World.cell?_setCell_same (W9.setCell ⟨w.heap.size, 0, none⟩ (.string d)) ⟨w.heap.size, 1, none⟩ (.int .i64 4) ((World.cell?_setCell_other _ _ _ _ (by intro e; injection e with _ e _; omega)).trans rr1)
        have hBW : Below w.heap.size w ((W9.setCell ⟨w.heap.size, 0, none⟩ (.string d)).setCell ⟨w.heap.size, 1, none⟩ (.int .i64 4)).drew := (Below.setCell (Below.setCell (show Below w.heap.size w W9 from ⟨hB9.os, hB9.tape, hB9.output, hB9.size, hB9.block⟩) (p := ⟨w.heap.size, 0, none⟩) (Nat.le_refl _) _) (p := ⟨w.heap.size, 1, none⟩) (Nat.le_refl _) _).drew
        go_wp2
        rw [HV.out]
        exact bodyPost_ret (v := .tuple #[.agg #[.string d, .int .i64 4], .int .i64 (firF 4 d 0 l), .int .i64 x]) (by simp [results, Try.results78, go_sem, s0, s1]; try done) rfl ⟨rfl, hBW⟩
    · have hW' : stF 4 l = [] := Classical.not_not.1 hW
      by_cases hD : stF 2 l ≠ []
      · have HV := Lib.hid (congrArg mgV (mgS_b hG' hW' hD))
        unfold mgB at HV
        have hgl : 0 < (stF 2 l).length := List.length_pos_iff.2 hD
        have d1 : decide (0 < (stF 2 l).length) = true := decide_eq_true hgl
        have HVT := Lib.hid (fun v W (h : StringL 0 W v (stF 2 l)) => vote_s 0 (stF 2 l) v W h (by omega) hD n HBS.out hn2)
        have HC := Lib.hid (fun v W (h : StringL 0 W v (stF 2 l)) => count_s 0 (stF 2 l) v (strN (voteV (stF 2 l))) W h (by omega))
        rw [hG'] at HS1
        rw [hW'] at HS4
        generalize stF 2 l = Bd at *
        generalize strN (voteV Bd) = d at *
        generalize cntF d Bd = x at *
        clear HBS hg hw hG' hG hW' hW
        go_enter Try.func78, Try.ntmps78
        go_wp2_with (fail)
        refine (HS1.out _ hb0).mono ?_; rintro e w1 ⟨v1, rfl, o1, hb1⟩
        have z0 := hb0.size
        have hB1 := hb0.trans (hb1.mono z0)
        have hR1 : Below (w.heap.size + 1) (w.alloc (.cells #[.string .empty, .int .i64 0] 48)) w1 := hb1.mono (by simp)
        have z1 := hB1.size
        have z1' := hR1.size
        obtain ⟨A1, c1, rfl, _⟩ := OwnL.shape o1
        go_wp2_with (fail)
        refine (HS4.out _ hB1).mono ?_; rintro e w2 ⟨v2, rfl, o2, hb2⟩
        have hB2 := hB1.trans (hb2.mono z1)
        have hR2 := hR1.trans (hb2.mono (by simp at z1'; omega))
        have z2 := hB2.size
        have z2' := hb2.size
        obtain ⟨A2, c2, rfl, _⟩ := OwnL.shape o2
        go_wp2_with (fail)
        refine (HS2.out _ hB2).mono ?_; rintro e w3 ⟨v3, rfl, o3, hb3⟩
        have hB3 := hB2.trans (hb3.mono z2)
        have hR3 := hR2.trans (hb3.mono (by simp at z1'; omega))
        have hO1 := OwnL.base (B' := 0) (OwnL.below (OwnL.below o1 hb2) hb3) (Nat.zero_le _)
        have hO2 := OwnL.base (B' := 0) (OwnL.below o2 hb3) (Nat.zero_le _)
        have hO3 := OwnL.base (B' := 0) o3 (Nat.zero_le _)
        have z3 := hb3.size
        have z03 : w.heap.size + 1 ≤ w3.heap.size := by simp at z1'; omega
        obtain ⟨A3, c3, rfl, _⟩ := OwnL.shape o3
        have HO1 := Lib.hid hO1
        have HO2 := Lib.hid hO2
        have HO3 := Lib.hid hO3
        clear o1 o2 o3 hO1 hO2 hO3 hb1 hb2 hb3 hB1 hB2 hR1 hR2 z1 z1' z2 z2' z3 z0 hb0
        go_wp2_with (fail)
        refine (HVT.out _ _ HO3.out).mono ?_; rintro e w4 ⟨A4, m4, c4, rfl, hb4⟩
        have hB4 := hB3.trans (hb4.mono (by omega))
        have hR4 := hR3.trans (hb4.mono z03)
        have HO4 := Lib.hid (OwnL.below HO3.out hb4)
        obtain ⟨rr0, rr1, rf⟩ := HR.out _ hR4
        have rf0 := rf 0
        have rf1 := rf 1
        clear HR rf
        go_wp2_with (fail)
        refine (HFI.out 2 d _ hB4).mono ?_; rintro e w5 ⟨rfl, rfl⟩
        go_wp2_with (fail)
        refine (HC.out _ _ HO4.out).mono ?_; rintro e w5 ⟨rfl, rfl⟩
        have s0 := World.cell?_setCell_other (w4.setCell ⟨w.heap.size, 0, none⟩ (.string d)) ⟨w.heap.size, 1, none⟩ ⟨w.heap.size, 0, none⟩ (.int .i64 2) (by intro e; injection e with _ e _; omega)
        rw [World.cell?_setCell_same _ _ _ rr0] at s0
        have s1 := World.cell?_setCell_same (w4.setCell ⟨w.heap.size, 0, none⟩ (.string d)) ⟨w.heap.size, 1, none⟩ (.int .i64 2) ((World.cell?_setCell_other _ _ _ _ (by intro e; injection e with _ e _; omega)).trans rr1)
        have hBW : Below w.heap.size w ((w4.setCell ⟨w.heap.size, 0, none⟩ (.string d)).setCell ⟨w.heap.size, 1, none⟩ (.int .i64 2)) := Below.setCell (Below.setCell hB4 (p := ⟨w.heap.size, 0, none⟩) (Nat.le_refl _) _) (p := ⟨w.heap.size, 1, none⟩) (Nat.le_refl _) _
        go_wp2
        rw [HV.out]
        exact bodyPost_ret (v := .tuple #[.agg #[.string d, .int .i64 2], .int .i64 (firF 2 d 0 l), .int .i64 x]) (by simp [results, Try.results78, go_sem, s0, s1]; try done) rfl ⟨rfl, hBW⟩
      · have hD' : stF 2 l = [] := Classical.not_not.1 hD
        have HV := Lib.hid (congrArg mgV (mgS_m hG' hW' hD'))
        unfold mgM at HV
        have hl0 : 0 < l.length := List.length_pos_iff.2 h0
        have hl1 : (0 : Int) < (l.length : Int) := by omega
        obtain ⟨e0, he0⟩ : ∃ e, l[0]? = some e := ⟨l[0]'(List.length_pos_iff.2 h0), List.getElem?_eq_getElem _⟩
        have hsz : e0.data.size = n := hs e0 (List.mem_of_getElem? he0)
        rw [List.getD_eq_getElem?_getD, he0, Option.getD_some, hsz] at HV
        obtain ⟨gl, rfl, hgl1⟩ := HGL.out h0
        have HC0 := Lib.hid (fun W (hb : Below w.heap.size w W) => (hb.cell (p := ⟨gl, 0, none⟩) hgl1.1).trans (hgl1.2 e0 he0))
        subst hsz
        rw [hG'] at HS1
        rw [hW'] at HS4
        rw [hD'] at HS2
        clear HBS hg hw hb' hG' hG hW' hW hD' hD he0 hgl1 HGL
        go_enter Try.func78, Try.ntmps78
        go_wp2_with (fail)
        refine (HS1.out _ hb0).mono ?_; rintro e w1 ⟨v1, rfl, o1, hb1⟩
        have z0 := hb0.size
        have hB1 := hb0.trans (hb1.mono z0)
        have hR1 : Below (w.heap.size + 1) (w.alloc (.cells #[.string .empty, .int .i64 0] 48)) w1 := hb1.mono (by simp)
        have z1 := hB1.size
        have z1' := hR1.size
        obtain ⟨A1, c1, rfl, _⟩ := OwnL.shape o1
        go_wp2_with (fail)
        refine (HS4.out _ hB1).mono ?_; rintro e w2 ⟨v2, rfl, o2, hb2⟩
        have hB2 := hB1.trans (hb2.mono z1)
        have hR2 := hR1.trans (hb2.mono (by simp at z1'; omega))
        have z2 := hB2.size
        have z2' := hb2.size
        obtain ⟨A2, c2, rfl, _⟩ := OwnL.shape o2
        go_wp2_with (fail)
        refine (HS2.out _ hB2).mono ?_; rintro e w3 ⟨v3, rfl, o3, hb3⟩
        have hB3 := hB2.trans (hb3.mono z2)
        have hR3 := hR2.trans (hb3.mono (by simp at z1'; omega))
        have hO1 := OwnL.base (B' := 0) (OwnL.below (OwnL.below o1 hb2) hb3) (Nat.zero_le _)
        have hO2 := OwnL.base (B' := 0) (OwnL.below o2 hb3) (Nat.zero_le _)
        have hO3 := OwnL.base (B' := 0) o3 (Nat.zero_le _)
        have z3 := hb3.size
        have z03 : w.heap.size + 1 ≤ w3.heap.size := by simp at z1'; omega
        obtain ⟨A3, c3, rfl, _⟩ := OwnL.shape o3
        have HO1 := Lib.hid hO1
        have HO2 := Lib.hid hO2
        have HO3 := Lib.hid hO3
        clear o1 o2 o3 hO1 hO2 hO3 hb1 hb2 hb3 hB1 hB2 hR1 hR2 z1 z1' z2 z2' z3 z0 hb0
        obtain ⟨w4, hmk, hbuf, hb4, hzb⟩ := buf_made w3 e0.data.size (by omega)
        have hB4 := hB3.trans (hb4.mono (by omega))
        have hR4 := hR3.trans (hb4.mono z03)
        have pl0 := HC0.out _ hB3
        have hst := Buf.str (n := e0.data.size) (c := e0.data.size) hbuf (by simp)
        obtain ⟨rr0, rr1, rf⟩ := HR.out _ hR4
        have rf0 := rf 0
        have rf1 := rf 1
        clear HR rf hbuf
        generalize strN (List.replicate e0.data.size 0) = d at *
        have s0 := World.cell?_setCell_other (w4.setCell ⟨w.heap.size, 0, none⟩ (.string d)) ⟨w.heap.size, 1, none⟩ ⟨w.heap.size, 0, none⟩ (.int .i64 3) (by intro e; injection e with _ e _; omega)
        rw [World.cell?_setCell_same _ _ _ rr0] at s0
        have s1 := World.cell?_setCell_same (w4.setCell ⟨w.heap.size, 0, none⟩ (.string d)) ⟨w.heap.size, 1, none⟩ (.int .i64 3) ((World.cell?_setCell_other _ _ _ _ (by intro e; injection e with _ e _; omega)).trans rr1)
        have hBW : Below w.heap.size w ((w4.setCell ⟨w.heap.size, 0, none⟩ (.string d)).setCell ⟨w.heap.size, 1, none⟩ (.int .i64 3)) := Below.setCell (Below.setCell hB4 (p := ⟨w.heap.size, 0, none⟩) (Nat.le_refl _) _) (p := ⟨w.heap.size, 1, none⟩) (Nat.le_refl _) _
        go_wp2
        rw [HV.out]
        exact bodyPost_ret (v := .tuple #[.agg #[.string d, .int .i64 3], .int .i64 (-1), .int .i64 0]) (by simp [results, Try.results78, go_sem, s0, s1]; try done) rfl ⟨rfl, hBW⟩
end Go.Proofs.Ytignjjkldmninaa
