/- topmost: the walk. l25Rows: the walk. Lists that are solved row by row: steps of the walk. l25Add: the walk. What the solving of rows hands back. -/
import Derived.Test.YtfcdienphillnaaGreatCk17
import Derived.StillTailTactics
namespace Go.Proofs.YtfcdienphillnaaGreat
set_option linter.unusedVariables false
set_option linter.unusedSimpArgs false
open Go.RowKit
theorem bitLen_top (m : Nat) (h0 : m ≠ 0) (h : m < 18446744073709551616) : Lib.bitLen m = top m + 1 := by
  induction m using Nat.strongRecOn with
  | _ m ih =>
    rw [Lib.bitLen_half m h0 h]
    unfold top
    rw [Nat.log2_def]
    by_cases h2 : 2 ≤ m
    · rw [if_pos h2, ih (m / 2) (by omega) (by omega) (by omega)]
      show 1 + (top (m / 2) + 1) = top (m / 2) + 1 + 1
      omega
    · rw [if_neg h2]
      obtain rfl : m = 1 := by omega
      rfl
theorem top_lt {m : Nat} (h0 : m ≠ 0) (h : m < 18446744073709551616) : top m < 64 := by
  apply Classical.byContradiction; intro hk
  have := top_on m h0
  rw [Nat.testBit_lt_two_pow (Nat.lt_of_lt_of_le (show m < 2 ^ 64 from h) (Nat.pow_le_pow_right (by omega) (by omega)))] at this; cases this
set_option maxHeartbeats 1000000 in
theorem top_i (m : Nat) (w : World) (h0 : m ≠ 0) (h : m < 18446744073709551616) :
    Calls Tryz.prog 180 #[.int .u64 m] w fun e w' => e = .returned (.int .u64 ((2 ^ top m : Nat) : Int)) ∧ w = w' := by
  have HL := Lib.hid (Tryz.bits_Len64 (m : Int) w (by omega) (by omega))
  rw [Int.toNat_natCast, bitLen_top m h0 h] at HL
  have ht := top_lt h0 h
  generalize top m = t at *
  have HW := Lib.hid (wrap_pow t ht)
  have e1 : ((t + 1 : Nat) : Int) - 1 = (t : Int) := by omega
  go_enter Tryz.func180, Tryz.ntmps180
  go_wp2_with (fail)
  refine HL.out.mono ?_; rintro e w1 ⟨rfl, rfl⟩
  go_wp2
  go_ret
  exact ⟨ret_int HW.out, rfl⟩
end Go.Proofs.YtfcdienphillnaaGreat
namespace Go.Proofs.YtfcdienphillnaaGreat
set_option linter.unusedVariables false
set_option linter.unusedSimpArgs false
open Go.RowKit
set_option maxRecDepth 20000 in
set_option maxHeartbeats 8000000 in
theorem rows_s (s : ByteArray) (u : List Nat) (v : Value) (crc : Nat) (w : World) (h : IntsAt w v (intsN u)) (hu : ∀ b ∈ u, b < 8 * s.size) (hs : s.size ≤ 64) (hm : u.length ≤ 64) (hc : crc < 65536) :
    Calls Tryz.prog 168 #[.string s, v, .int .i64 crc] w fun e w' => RetL (rc .u64) 2 210 w (rowsR s.size u (crcN (clrN (bts s) u) 65535 ^^^ crc)) e w' := by
  obtain ⟨i0, hi, hz0, hz1, hz2⟩ := info_parts rowu_info
  have HI := Lib.hid h
  have HU := Lib.hid hu
  have HCL := Lib.hid (fun w' (hb : Below w.heap.size w w') => clear_s s u v w' (h.below hb) hu (by omega) (by omega))
  have HCR := Lib.hid (fun g c w' (hB : Buf w' g (clrN (bts s) u)) => crcb_s g c s.size (clrN (bts s) u) w' hB (by rw [clrN_len, bts_len]) (by omega) (clrN_lt bts_lt))
  have hcn := crcN_lt (clrN (bts s) u) 65535 (by omega)
  generalize crcN (clrN (bts s) u) 65535 = cn at *
  have hx := i64_xor_nat cn crc (by omega) (by omega)
  have hrl : cn ^^^ crc < 65536 := Nat.xor_lt_two_pow (n := 16) hcn hc
  generalize cn ^^^ crc = rest at *
  obtain ⟨A, cA, rfl, hA⟩ := h
  simp only [intsN_len] at HCL ⊢
  clear hu
  go_enter Tryz.func168, Tryz.ntmps168
  go_wp2_with (fail)
  refine (HCL.out _ (Below.refl _ _)).mono ?_; rintro e w2 ⟨c2, rfl, hB2, hz2', hb2⟩
  go_wp2_with (fail)
  refine (HCR.out _ _ _ hB2).mono ?_; rintro e w3 ⟨rfl, rfl⟩
  have hb02 : Below w.heap.size w w2 := hb2
  have HO2 : Hid (RowL .u64 210 w.heap.size (w2.alloc (.cells #[] 210)) (.slice (some ⟨w2.heap.size, 0, none⟩) 0 0) (rowsT rest 0)) := Lib.hid (OwnL.of_empty w2 (by omega))
  clear HCL HCR hb2 hB2
  go_wp2
  go_loopw [9, 8] (fun i x wr => ∃ k : Nat, k ≤ 16 ∧ i = .int .i64 k ∧ Below w.heap.size w wr ∧ Hid (RowL .u64 210 w.heap.size wr x (rowsT rest k))) (fun i _ _ => 16 - (intOf i).toNat)
  case atStart => exact ⟨0, by omega, rfl, (by repeat (first | exact Below.refl _ _ | refine Below.alloc ?_ (by first | omega | (simp; done) | (simp; omega)) _ | apply Below.drew | apply below_drewN | refine Below.setCell ?_ (by first | omega | (simp; done) | (simp; omega)) _ | refine Below.trans ?_ (Below.mono (by assumption) (by first | omega | (simp; done) | (simp; omega))))), HO2⟩
  case round =>
    obtain ⟨k, hk, rfl, hb, HO⟩ := hrel
    by_cases hlt : k < 16
    · obtain ⟨j, hj⟩ : ∃ j, j + k = 15 := ⟨15 - k, by omega⟩
      have e1 : (15 : Int) - (k : Int) = (j : Int) := by omega
      have ej : 15 - k = j := by omega
      have hbv := i64_bit rest j (by omega)
      have hbv2 : bits .and .i64 ((rest : Int) / 2 ^ min j 64) 1 = bi (rest.testBit j) := by rw [Nat.min_eq_left (by omega)]; exact hbv
      have hwu := bi_wrap_u (rest.testBit j)
      have hzr := hb.size
      have HN := Lib.hid (rowsT_next rest k)
      rw [ej] at HN
      generalize rest.testBit j = b at *
      obtain ⟨Ax, cx, hvx, _⟩ := OwnL.shape HO.out
      rw [rowsT_len] at hvx
      subst hvx
      have htl : (rowsT rest k).length ≤ 16 := by rw [rowsT_len]; omega
      clear ej
      go_wp2_with (at_builtin; refine wpList_app1 (rc .u64) 2 (rc_len .u64) _ rfl _ _ _ rfl w.heap.size 210 i0 (.agg #[.int .u64 0, .int .u64 0]) 16 Tryz.underlying176 hi hz0 hz1 hz2 rfl (by decide) _ (rowsT rest k) rfl (HO.out.alloc _) _ 1 ⟨0, b⟩ rfl ?_ (rc_one .u64 _) (by omega) (by omega) (by simp; omega) ?_; (· exact rowc_news .u64 0 b (by simp) (by simp)); intro v' w8 how8 hg8; have hg8' : Below w.heap.size w w8 := own_grown_below (HO.out.alloc (.cells #[.int .u64 0, .int .u64 (bi b)] 210)) (Below.alloc hb hzr _) hg8 (Nat.le_refl _) (by simp; omega); clear hg8)
      go_roundw
      case rel => exact ⟨k + 1, by omega, by go_num, hg8', by rw [HN.out]; exact Lib.hid how8⟩
      case measure => simp [intOf]; omega
    · obtain rfl : k = 16 := by omega
      rw [rowsT_end s.size u] at HO
      have hbo := hb
      obtain ⟨Ax, cx, hvx, hAx⟩ := OwnL.shape HO.out
      obtain ⟨gx, rfl, _, _⟩ := hAx.resolve_left (by intro h0; have := congrArg List.length h0; rw [rowsP_len] at this; simp at this)
      rw [rowsP_len] at hvx
      subst hvx
      generalize hwo : wr = wo at *; clear hwo
      clear HO2 hb02 hAx
      go_wp2
      go_loopw [10] (fun i wr => ∃ k : Nat, k ≤ u.length ∧ i = .int .i64 k ∧ Below w.heap.size w wr ∧ Hid (RowL .u64 210 w.heap.size wr (.slice (some ⟨gx, 0, none⟩) 16 cx) (rowsP s.size u rest k 0))) (fun i _ => u.length - (intOf i).toNat)
      case atStart => exact ⟨0, by omega, rfl, hbo, HO⟩
      case round =>
        clear HO hbo
        obtain ⟨k, hk, rfl, hb, HO⟩ := hrel
        by_cases hltk : k < u.length
        · obtain ⟨b, hbk⟩ : ∃ b, u[k]? = some b := ⟨u[k], List.getElem?_eq_getElem hltk⟩
          have hbs := HU.out b (List.mem_of_getElem? hbk)
          have HB := Lib.hid (getD_some hbk)
          obtain ⟨g, rfl, hg, hcc⟩ := hA.resolve_left (by intro h0; have := congrArg List.length h0; rw [intsN_len] at this; simp only [List.length_nil] at this; omega)
          have pk := (hb.cell (p := ⟨g, k, none⟩) hg).trans (hcc k _ (intsN_get hbk))
          have HE := Lib.hid (fun w' => eff_s s.size b w' hs hbs)
          have hel := effN_lt s.size b
          have HM1 := Lib.hid (fun i hi => maskR_yes (n := s.size) (i := i) HB.out hi)
          have HM0 := Lib.hid (fun i hi => maskR_no (n := s.size) (i := i) HB.out hi)
          generalize effN s.size b = ef at *
          clear hcc hbk HB
          go_wp2_with (fail)
          refine (HE.out _).mono ?_; rintro e w4 ⟨rfl, hb4⟩
          have HO4 := Lib.hid (OwnL.below HO.out hb4)
          have hb04 := hb.trans (hb4.mono hb.size)
          clear HO hb hb4 HE pk
          go_wp2
          go_loopw [12] (fun i wr => ∃ j : Nat, j ≤ 16 ∧ i = .int .i64 j ∧ Below w.heap.size w wr ∧ Hid (RowL .u64 210 w.heap.size wr (.slice (some ⟨gx, 0, none⟩) 16 cx) (rowsP s.size u rest k j))) (fun i _ => 16 - (intOf i).toNat)
          case atStart => exact ⟨0, by omega, rfl, hb04, HO4⟩
          case round =>
            clear HO4 hb04
            obtain ⟨i, hi2, rfl, hb, HO⟩ := hrel
            by_cases hlt : i < 16
            · obtain ⟨j, hj⟩ : ∃ j, j + i = 15 := ⟨15 - i, by omega⟩
              have e1 : (15 : Int) - (i : Int) = (j : Int) := by omega
              have ej : 15 - i = j := by omega
              have hbv := i64_bit ef j (by omega)
              have hbv2 : bits .and .i64 ((ef : Int) / 2 ^ min j 64) 1 = bi (ef.testBit j) := by rw [Nat.min_eq_left (by omega)]; exact hbv
              have hg3 := (World.ownsRow.lt HO.out _ rfl)
              have q1 := OwnL.at1 (rc_len .u64) HO.out (rowsP_get hlt) (j := 0) rfl
              have z0 := fun j => OwnL.frozen (j := j) HO.out
              simp only [Nat.add_zero] at q1
              have HS := Lib.hid (OwnL.set1 (rc_len .u64) HO.out (rowsP_get hlt) (j := 0) (a' := ⟨maskR s.size u i (k + 1), rest.testBit (15 - i)⟩) (u := .int .u64 (maskR s.size u i (k + 1) : Nat)) (by omega) rfl)
              rw [rowsP_set] at HS
              simp only [Nat.add_zero] at HS
              have hmb := maskR_64 s.size u i (K := k) (by omega)
              have hpw : 2 ^ k < 18446744073709551616 := Nat.lt_of_lt_of_le (Nat.pow_lt_pow_right (by omega) (by omega : k < 64)) (by decide)
              cases hbit : ef.testBit j
              · rw [hbit, bi_f] at hbv hbv2
                have hor := u64_or_nat (maskR s.size u i k) 0 hmb (by decide)
                have hM := HM0.out i (by rw [ej]; exact hbit)
                rw [Nat.or_zero, ← hM] at hor
                rw [← hM] at q1
                clear hM
                generalize maskR s.size u i (k + 1) = m1 at *
                have hor0 : bits .or .u64 (m1 : Int) 0 = (m1 : Int) := hor
                clear ej
                go_wp2
                go_roundw
                case rel => exact ⟨i + 1, by omega, by go_num, (by repeat (first | exact Below.refl _ _ | refine Below.alloc ?_ (by first | omega | (simp; done) | (simp; omega)) _ | apply Below.drew | apply below_drewN | refine Below.setCell ?_ (by first | omega | (simp; done) | (simp; omega)) _ | refine Below.trans ?_ (Below.mono (by assumption) (by first | omega | (simp; done) | (simp; omega))))), HS⟩
                case measure => simp [intOf]; omega
              · rw [hbit, bi_t] at hbv hbv2
                have hor := u64_or_nat (maskR s.size u i k) (2 ^ k) hmb hpw
                rw [← HM1.out i (by rw [ej]; exact hbit), ← wrap_pow k (by omega)] at hor
                generalize maskR s.size u i (k + 1) = m1 at *
                generalize maskR s.size u i k = m0 at *
                clear ej
                go_wp2
                go_roundw
                case rel => exact ⟨i + 1, by omega, by go_num, (by repeat (first | exact Below.refl _ _ | refine Below.alloc ?_ (by first | omega | (simp; done) | (simp; omega)) _ | apply Below.drew | apply below_drewN | refine Below.setCell ?_ (by first | omega | (simp; done) | (simp; omega)) _ | refine Below.trans ?_ (Below.mono (by assumption) (by first | omega | (simp; done) | (simp; omega))))), HS⟩
                case measure => simp [intOf]; omega
            · obtain rfl : i = 16 := by omega
              rw [rowsP_all] at HO
              go_wp2
              go_roundw
              case rel => (repeat apply Exists.intro); exact ⟨⟨k + 1, by omega, by go_num, hb, HO⟩, rfl⟩
              case measure => simp [intOf]; omega
        · obtain rfl : k = u.length := by omega
          rw [rowsP_end] at HO
          go_wp2
          go_ret
          exact ⟨_, rfl, HO.out, hb⟩
end Go.Proofs.YtfcdienphillnaaGreat
namespace Go.Proofs.YtfcdienphillnaaGreat
set_option linter.unusedVariables false
set_option linter.unusedSimpArgs false
open Go.RowKit
theorem region_s0 {P : Program} {id : Nat} {Q : Exit → Act → World → Prop} {a : Act} {w : World} {ops : Array Oper} (hm : P.follows .mixedOrders = true) (hB : Region.lexB .any ops = true)
    (h : ∀ w6, w6 = w.drew → wpStill P ops w6 (fun a' => Q .normal a' w6) ops.toList a) : (Code.region id ops true).wp P Q a w := wp_region_still hm hB (h _ rfl)
theorem still_c {P : Program} {f : FuncId} {args : Array Value} {w : World} {v : Value} (h : Calls P f args w fun e w' => e = .returned v ∧ w = w') : Calls P f args w fun e w' => e = .returned v ∧ w' = w :=
  h.mono fun _ _ ⟨a, b⟩ => ⟨a, b.symm⟩
theorem box2 (w : World) (a b : Value) (e : TypeId) : (w.alloc (.cells #[a, b] e)).drew.cell? ⟨w.heap.size, 0, none⟩ = some a ∧ (w.alloc (.cells #[a, b] e)).drew.cell? ⟨w.heap.size, 1, none⟩ = some b ∧ (w.alloc (.cells #[a, b] e)).drew.frozen? ⟨w.heap.size, 0, none⟩ = false ∧ (w.alloc (.cells #[a, b] e)).drew.frozen? ⟨w.heap.size, 1, none⟩ = false ∧ Below w.heap.size w (w.alloc (.cells #[a, b] e)).drew ∧ w.heap.size < (w.alloc (.cells #[a, b] e)).drew.heap.size := by
  refine ⟨?_, ?_, ?_, ?_, (Below.alloc (Below.refl _ _) (Nat.le_refl _) _).drew, by simp⟩ <;> simp [go_sem]
theorem redI_cons {p : Nat → Nat} {ol rs : List Rw} {r r' : Rw} (h : ol.foldl (clr p) r = r') : redI p ol (r :: rs) = if r'.m = 0 then (if r'.r then none else redI p ol rs) else redI p (ol.map (fun k => clr (fun _ => p r'.m) k r') ++ [r']) rs := by rw [redI, h]
theorem rd_none {p : Nat → Nat} {ol l : List Rw} {k : Nat} {r r' : Rw} {X : Option (List Rw)} (hg : l[k]? = some r) (H : Hid (X = redI p ol (l.drop k))) (h : ol.foldl (clr p) r = r') (h0 : r'.m = 0) (h1 : r'.r = true) : X = none := by
  obtain ⟨hk, rfl⟩ := List.getElem?_eq_some_iff.1 hg
  rw [H.out, List.drop_eq_getElem_cons hk, redI_cons h, if_pos h0, if_pos h1]
theorem rd_skip {p : Nat → Nat} {ol l : List Rw} {k : Nat} {r r' : Rw} {X : Option (List Rw)} (hg : l[k]? = some r) (H : Hid (X = redI p ol (l.drop k))) (h : ol.foldl (clr p) r = r') (h0 : r'.m = 0) (h1 : r'.r = false) : Hid (X = redI p ol (l.drop (k + 1))) := by
  obtain ⟨hk, rfl⟩ := List.getElem?_eq_some_iff.1 hg
  exact Lib.hid (by rw [H.out, List.drop_eq_getElem_cons hk, redI_cons h, if_pos h0, if_neg (by rw [h1]; decide)])
theorem rd_more {p : Nat → Nat} {ol l : List Rw} {k : Nat} {r r' : Rw} {X : Option (List Rw)} (hg : l[k]? = some r) (H : Hid (X = redI p ol (l.drop k))) (h : ol.foldl (clr p) r = r') (h0 : r'.m ≠ 0) : Hid (X = redI p (ol.map (fun k => clr (fun _ => p r'.m) k r') ++ [r']) (l.drop (k + 1))) := by
  obtain ⟨hk, rfl⟩ := List.getElem?_eq_some_iff.1 hg
  exact Lib.hid (by rw [H.out, List.drop_eq_getElem_cons hk, redI_cons h, if_neg h0])
theorem rd_end {p : Nat → Nat} {ol l : List Rw} {k : Nat} {X : Option (List Rw)} (hk : l.length ≤ k) (H : Hid (X = redI p ol (l.drop k))) : X = some ol := by
  rw [H.out, List.drop_of_length_le hk, redI]
theorem fo_yes {p : Nat → Nat} {ol : List Rw} {j : Nat} {r kn : Rw} {X : Rw} (hj : ol[j]? = some kn) (H : Hid (X = (ol.drop j).foldl (clr p) r)) (h : r.m.testBit (p kn.m) = true) : Hid (X = (ol.drop (j + 1)).foldl (clr p) (r.add kn)) := by
  obtain ⟨hk, rfl⟩ := List.getElem?_eq_some_iff.1 hj
  exact Lib.hid (by rw [H.out, List.drop_eq_getElem_cons hk, List.foldl_cons, clr, if_pos h])
theorem fo_no {p : Nat → Nat} {ol : List Rw} {j : Nat} {r kn : Rw} {X : Rw} (hj : ol[j]? = some kn) (H : Hid (X = (ol.drop j).foldl (clr p) r)) (h : r.m.testBit (p kn.m) = false) : Hid (X = (ol.drop (j + 1)).foldl (clr p) r) := by
  obtain ⟨hk, rfl⟩ := List.getElem?_eq_some_iff.1 hj
  exact Lib.hid (by rw [H.out, List.drop_eq_getElem_cons hk, List.foldl_cons, clr, if_neg (by rw [h]; decide)])
theorem fo_end {p : Nat → Nat} {ol : List Rw} {j : Nat} {r : Rw} {X : Rw} (hk : ol.length ≤ j) (H : Hid (X = (ol.drop j).foldl (clr p) r)) : X = r := by
  rw [H.out, List.drop_of_length_le hk]; rfl
/-- the first j elements turned -/
def mapT (F : Rw → Rw) (j : Nat) (l : List Rw) : List Rw := (l.take j).map F ++ l.drop j
theorem mapT_len (F : Rw → Rw) (j : Nat) (l : List Rw) : (mapT F j l).length = l.length := by simp [mapT]; omega
theorem mapT_get {F : Rw → Rw} {j : Nat} {l : List Rw} {a : Rw} (h : l[j]? = some a) : (mapT F j l)[j]? = some a := by
  obtain ⟨hk, rfl⟩ := List.getElem?_eq_some_iff.1 h
  unfold mapT
  rw [List.getElem?_append_right (by simp; omega)]
  simp
  rw [show j - min j l.length = 0 by omega]; simp [hk]
theorem mapT_next {F : Rw → Rw} {j : Nat} {l : List Rw} {a : Rw} (h : l[j]? = some a) : (mapT F j l).set j (F a) = mapT F (j + 1) l := by
  obtain ⟨hk, rfl⟩ := List.getElem?_eq_some_iff.1 h
  unfold mapT
  have hm : ((l.take j).map F).length = j := by simp; omega
  rw [List.set_append_right _ _ (by omega), hm, Nat.sub_self, List.drop_eq_getElem_cons hk, List.set_cons_zero, List.take_succ_eq_append_getElem hk, List.map_append, List.append_assoc]; rfl
theorem mapT_same {F : Rw → Rw} {j : Nat} {l : List Rw} {a : Rw} (h : l[j]? = some a) (hF : F a = a) : mapT F (j + 1) l = mapT F j l := by
  rw [← mapT_next h, hF]
  have h2 := mapT_get (F := F) h
  obtain ⟨h3, h4⟩ := List.getElem?_eq_some_iff.1 h2
  conv => lhs; arg 3; rw [← h4]
  rw [List.set_getElem_self]
theorem mapT_zero (F : Rw → Rw) (l : List Rw) : mapT F 0 l = l := by simp [mapT]
theorem mapT_end (F : Rw → Rw) (l : List Rw) : mapT F l.length l = l.map F := by simp [mapT]
theorem OwnL.set2 {κ : IntKind} {e : TypeId} {B g n c k : Nat} {w : World} {l : List Rw} {a a' : Rw} (h : OwnL (rc κ) 2 e B w (.slice (some ⟨g, 0, none⟩) n c) l) (hk : l[k]? = some a) :
    OwnL (rc κ) 2 e B ((w.setCell ⟨g, k * 2, none⟩ (.int .u64 a'.m)).setCell ⟨g, k * 2 + 1, none⟩ (.int κ (bi a'.r))) (.slice (some ⟨g, 0, none⟩) n c) (l.set k a') := by
  have h1 := OwnL.set1 (rc_len κ) h hk (j := 0) (a' := ⟨a'.m, a.r⟩) (u := .int .u64 a'.m) (by omega) rfl
  have hl := (List.getElem?_eq_some_iff.1 hk).1
  have h2 := OwnL.set1 (rc_len κ) h1 (k := k) (a := ⟨a'.m, a.r⟩) (by rw [List.getElem?_set_self hl]) (j := 1) (a' := a') (u := .int κ (bi a'.r)) (by omega) rfl
  rw [List.set_set] at h2
  exact h2
theorem xor64 {a b : Nat} (ha : a < 18446744073709551616) (hb : b < 18446744073709551616) : a ^^^ b < 18446744073709551616 := Nat.xor_lt_two_pow (n := 64) ha hb
end Go.Proofs.YtfcdienphillnaaGreat
namespace Go.Proofs.YtfcdienphillnaaGreat
set_option linter.unusedVariables false
set_option linter.unusedSimpArgs false
open Go.RowKit
theorem region_st {P : Program} {id : Nat} {Q : Exit → Act → World → Prop} {a : Act} {w : World} {l : List Oper} (n : Nat) (hm : P.follows .mixedOrders = true) (hB : Region.lexTailB .any l.toArray n = true)
    (h : ∀ w6, w6 = w.drew → wpStill P l.toArray w6 (fun a' => wpList P l.toArray Q (l.drop n) a' w6) (l.take n) a) : (Code.region id l.toArray true).wp P Q a w := wp_region_still_tail n hm hB (h _ rfl)
theorem gdrew {a w : World} {row : Option Nat} (h : a.grownBy w row) : a.grownBy w.drew row := ⟨h.os, h.tape, h.output, h.size, h.block⟩
theorem addK_yes {k : Nat} {row e : Rw} (h : e.m.testBit k = true) : addK k row e = e.add row := by rw [addK, if_pos h]
theorem addK_no {k : Nat} {row e : Rw} (h : e.m.testBit k = false) : addK k row e = e := by rw [addK, if_neg (by rw [h]; decide)]
theorem set_off {w : World} {g g' o o' : Nat} {u : Value} (h : g' ≠ g) : (w.setCell ⟨g, o, none⟩ u).cell? ⟨g', o', none⟩ = w.cell? ⟨g', o', none⟩ := World.cell?_setCell_other _ _ _ _ (by intro e; injection e with e _ _; exact h e.symm)
theorem set_off2 {w : World} {g o o' : Nat} {u : Value} (h : o' ≠ o) : (w.setCell ⟨g, o, none⟩ u).cell? ⟨g, o', none⟩ = w.cell? ⟨g, o', none⟩ := World.cell?_setCell_other _ _ _ _ (by intro e; injection e with _ e _; exact h e.symm)
set_option maxRecDepth 20000 in
set_option maxHeartbeats 8000000 in
theorem add_s (B : Nat) (l : List Rw) (v : Value) (k : Nat) (row : Rw) (w : World) (h : RowL .u64 210 B w v l) (hk : k < 64) (hl : ∀ e ∈ l, e.m < 18446744073709551616) (hr : row.m < 18446744073709551616) (hn : l.length ≤ 1048576) :
    Calls Tryz.prog 201 #[v, .int .i64 k, .agg #[.int .u64 row.m, .int .u64 (bi row.r)]] w fun e w' => e = .returned (.tuple #[]) ∧ RowL .u64 210 B w' v (l.map (addK k row)) ∧ w.grownBy w' v.ownBlock := by
  obtain ⟨A, cA, rfl, hA⟩ := h.shape
  have x4 : Below w.heap.size w (w.alloc (.cells #[.int .u64 row.m, .int .u64 (bi row.r)] 210)) := Below.alloc (Below.refl _ _) (Nat.le_refl _) _
  by_cases hl0 : l = []
  · subst hl0
    have HO := Lib.hid (OwnL.below h x4)
    clear h hA
    go_enter Tryz.func201, Tryz.ntmps201
    go_wp2
    refine wp_loop_once ?_
    go_wp2
    exact bodyPost_end (results_none rfl _ _ _) rfl ⟨rfl, HO.out, grown_of_below x4 _⟩
  · obtain ⟨gx, rfl, hgx1, hgx2⟩ := hA.resolve_left hl0
    have HL := Lib.hid hl
    have HO0 : Hid (RowL .u64 210 B (w.alloc (.cells #[.int .u64 row.m, .int .u64 (bi row.r)] 210)) (.slice (some ⟨gx, 0, none⟩) l.length cA) (mapT (addK k row) 0 l)) := by rw [mapT_zero]; exact Lib.hid (OwnL.below h x4)
    have hg0 : w.grownBy (w.alloc (.cells #[.int .u64 row.m, .int .u64 (bi row.r)] 210)) (some gx) := grown_of_below x4 _
    have a0 : (w.alloc (.cells #[.int .u64 row.m, .int .u64 (bi row.r)] 210)).cell? ⟨w.heap.size, 0, none⟩ = some (.int .u64 row.m) := by simp [go_sem]
    have a1 : (w.alloc (.cells #[.int .u64 row.m, .int .u64 (bi row.r)] 210)).cell? ⟨w.heap.size, 1, none⟩ = some (.int .u64 (bi row.r)) := by simp [go_sem]
    clear h hA hl x4
    go_enter Tryz.func201, Tryz.ntmps201
    go_wp2
    go_loopw [6] (fun i wr => ∃ j : Nat, j ≤ l.length ∧ i = .int .i64 j ∧ w.grownBy wr (some gx) ∧ wr.cell? ⟨w.heap.size, 0, none⟩ = some (.int .u64 row.m) ∧ wr.cell? ⟨w.heap.size, 1, none⟩ = some (.int .u64 (bi row.r)) ∧ Hid (RowL .u64 210 B wr (.slice (some ⟨gx, 0, none⟩) l.length cA) (mapT (addK k row) j l))) (fun i _ => l.length - (intOf i).toNat)
    case atStart => exact ⟨0, by omega, rfl, hg0, a0, a1, HO0⟩
    case round =>
      clear HO0 hg0 a0 a1
      obtain ⟨j, hj, rfl, hg, a0, a1, HO⟩ := hrel
      by_cases hltj : j < l.length
      · obtain ⟨e, he⟩ : ∃ e, l[j]? = some e := ⟨l[j], List.getElem?_eq_getElem hltj⟩
        have hT := mapT_get (F := addK k row) he
        have k0 := OwnL.at1 (rc_len .u64) HO.out hT (j := 0) rfl
        have k1 := OwnL.at1 (rc_len .u64) HO.out hT (j := 1) rfl
        simp only [Nat.add_zero] at k0
        have hel := HL.out e (List.mem_of_getElem? he)
        have hbv := u64_bit e.m k hel
        have hbv2 : bits .and .u64 ((e.m : Int) / 2 ^ min k 64) 1 = bi (e.m.testBit k) := by rw [Nat.min_eq_left (by omega)]; exact hbv
        cases ht : e.m.testBit k
        · rw [ht, bi_f] at hbv hbv2
          have HN := Lib.hid (mapT_same he (addK_no (row := row) ht))
          clear he hT ht
          go_wp2
          go_roundw
          case rel => exact ⟨j + 1, by omega, by go_num, hg, a0, a1, by rw [HN.out]; exact HO⟩
          case measure => simp [intOf]; omega
        · rw [ht, bi_t] at hbv hbv2
          have hxm := u64_xor_nat e.m row.m hel hr
          have hxr := bi_xor_u e.r row.r
          have HM := Lib.hid (mapT_next (F := addK k row) he)
          rw [addK_yes ht] at HM
          have HS := Lib.hid (OwnL.set2 (a' := e.add row) HO.out hT)
          rw [HM.out] at HS
          have z0 := fun j => OwnL.frozen (j := j) HO.out
          have hne : w.heap.size ≠ gx := by omega
          have b1 : (wr.setCell ⟨gx, j * 2, none⟩ (.int .u64 ((e.m ^^^ row.m : Nat) : Int))).cell? ⟨w.heap.size, 1, none⟩ = some (.int .u64 (bi row.r)) := (set_off hne).trans a1
          have b0 : (wr.setCell ⟨gx, j * 2, none⟩ (.int .u64 ((e.m ^^^ row.m : Nat) : Int))).cell? ⟨w.heap.size, 0, none⟩ = some (.int .u64 row.m) := (set_off hne).trans a0
          have b2 : (wr.setCell ⟨gx, j * 2, none⟩ (.int .u64 ((e.m ^^^ row.m : Nat) : Int))).cell? ⟨gx, j * 2 + 1, none⟩ = some (.int .u64 (bi e.r)) := (set_off2 (by omega)).trans k1
          have HB0 := Lib.hid ((set_off (o := j * 2 + 1) (u := .int .u64 (bi (e.r ^^ row.r))) (g := gx) (o' := 0) hne).trans b0)
          have HB1 := Lib.hid ((set_off (o := j * 2 + 1) (u := .int .u64 (bi (e.r ^^ row.r))) (g := gx) (o' := 1) hne).trans b1)
          clear he hT ht
          go_wp2
          go_still_tail 10, (by kernel_rfl)
          go_wp2
          have c1 : (wr.setCell ⟨gx, j * 2, none⟩ (.int .u64 ((e.m ^^^ row.m : Nat) : Int))).drew.drew.cell? ⟨w.heap.size, 1, none⟩ = some (.int .u64 (bi row.r)) := b1
          have c2 : (wr.setCell ⟨gx, j * 2, none⟩ (.int .u64 ((e.m ^^^ row.m : Nat) : Int))).drew.drew.cell? ⟨gx, j * 2 + 1, none⟩ = some (.int .u64 (bi e.r)) := b2
          have c3 : (wr.setCell ⟨gx, j * 2, none⟩ (.int .u64 ((e.m ^^^ row.m : Nat) : Int))).drew.drew.frozen? ⟨gx, j * 2 + 1, none⟩ = false := (World.frozen?_setCell _ _ _ _).trans (z0 _)
          refine region_st 10 (by kernel_rfl) (by kernel_rfl) (fun w8 hw8 => ?_)
          rw [← hw8] at c1 c2 c3
          repeat still_step
          refine wpStill_nil ?_
          go_wp2
          subst hw8
          go_roundw
          case rel => exact ⟨j + 1, by omega, by go_num, gtrans hg (gdrew (gdrew (gset (gset (World.grownBy.refl wr (some gx)) _ _) _ _))), HB0.out, HB1.out, Lib.hid (OwnL.qt HS.out ⟨2, rfl⟩)⟩
          case measure => simp [intOf]; omega
      · obtain rfl : j = l.length := by omega
        rw [mapT_end] at HO
        go_wp2
        exact bodyPost_end (results_none rfl _ _ _) rfl ⟨rfl, HO.out, hg⟩
end Go.Proofs.YtfcdienphillnaaGreat
namespace Go.Proofs.YtfcdienphillnaaGreat
set_option linter.unusedVariables false
set_option linter.unusedSimpArgs false
open Go.RowKit
def redQ (e : TypeId) (κ : IntKind) (w : World) (X : Option (List Rw)) (r : Ending) (w' : World) : Prop := ∃ v', r = .returned (.tuple #[v', .bool X.isSome]) ∧ RowL κ e w.heap.size w' v' (X.getD []) ∧ Below w.heap.size w w'
end Go.Proofs.YtfcdienphillnaaGreat
