/- The reference's drawn equations: the walk. -/
import Derived.Test.YthchdbjgjnpooaaDoorPutQ
import Derived.Test.YthchdbjgjnpooaaDoorA2Q
import Derived.Test.YthchdbjgjnpooaaDoorHEqT
import Derived.Test.YthchdbjgjnpooaaDoorEqnS
import Derived.Deep.RegionLaw
namespace Go.Proofs.YthchdbjgjnpooaaDoor
set_option linter.unusedVariables false
set_option linter.unusedSimpArgs false
open Go.RowKit
theorem OwnL.chgIn {α : Type} {f : α → List Value} {z : Nat} {e : TypeId} {B B' E' : Nat} {w w' : World} {v : Value} {l : List α} (h : OwnL f z e B w v l) (hc : Chg B' E' w w') (hd : E' ≤ B) : OwnL f z e B w' v l :=
  OwnL.blk h (fun q hq => hc.block q (World.ownsRow.lt h q hq).2 (by have := (World.ownsRow.lt h q hq).1; omega))
theorem chg_cell {B E b o : Nat} {w w' : World} {v : Value} (h : w.cell? ⟨b, o, none⟩ = some v) (hc : Chg B E w w') (hb : E ≤ b) : w'.cell? ⟨b, o, none⟩ = some v :=
  (World.cell?_of_block (a := ⟨b, o, none⟩) (hc.block b (World.block_lt_of_cell? w _ h) (by omega))).trans h
theorem chg_fr {B E b o : Nat} {w w' : World} (h : w.frozen? ⟨b, o, none⟩ = false) (hc : Chg B E w w') (hl : b < w.heap.size) (hb : E ≤ b) : w'.frozen? ⟨b, o, none⟩ = false :=
  (World.frozen?_of_block (a := ⟨b, o, none⟩) (hc.block b hl (by omega))).trans h
theorem bel_fr {b o : Nat} {w w' : World} (h : w.frozen? ⟨b, o, none⟩ = false) (hb : Below w.heap.size w w') (hl : b < w.heap.size) : w'.frozen? ⟨b, o, none⟩ = false := (hb.frozen (p := ⟨b, o, none⟩) hl).trans h
theorem bel_cell {b o : Nat} {w w' : World} {v : Value} (h : w.cell? ⟨b, o, none⟩ = some v) (hb : Below w.heap.size w w') : w'.cell? ⟨b, o, none⟩ = some v := (hb.cell (p := ⟨b, o, none⟩) (World.block_lt_of_cell? w _ h)).trans h
theorem Chg.setNew {B E b o : Nat} {w W : World} (h : Chg B E w W) (hb : w.heap.size ≤ b) (u : Value) : Chg B E w (W.setCell ⟨b, o, none⟩ u) :=
  ⟨h.os, h.tape, h.output, by simpa using h.size, fun k hk hne => (Below.heap_setCell W ⟨b, o, none⟩ u k (by intro e; have e' : k = b := e; omega)).trans (h.block k hk hne)⟩
theorem DrAt.setNew {w : World} {g b o : Nat} {A : Option Addr} {n c a : Nat} (h : DrAt w g A n c a) (hb : g < b) (u : Value) : DrAt (w.setCell ⟨b, o, none⟩ u) g A n c a :=
  h.keep (fun k hk => Below.heap_setCell w ⟨b, o, none⟩ u k (by intro e; have e' : k = b := e; omega)) (by simp)
set_option maxRecDepth 20000 in
set_option maxHeartbeats 8000000 in
theorem drawEq_s (g : Nat) (A : Option Addr) (n c a : Nat) (w : World) (h : DrAt w g A n c a) (hn : n ≤ 1048576) (ha : a ≤ 1048576) :
    Calls Tryd.prog 19 #[.pointer (some ⟨g, 0, none⟩)] w fun e w' => ∃ (v : Value) (l : List Eqn) (N : Int), e = .returned (.tuple #[v, .int .i64 N]) ∧ EqTree w.heap.size w'.heap.size w' v l ∧ l.length ≤ 8 ∧ (∀ e ∈ l, e.bits.length ≤ 8) ∧ (-1 ≤ N ∧ N ≤ 65) ∧ Chg g (g + 1) w w' := by
  obtain ⟨i0, hi, hz0, hz1, hz2⟩ := info_parts icell_info
  obtain ⟨i1, ji, jz0, jz1, jz2⟩ := info_parts eqn_info
  go_enter Tryd.func19, Tryd.ntmps19
  go_wp2_with (fail)
  refine (pick_s g A n c a 8 _ h hn (by omega) (by omega)).mono ?_; rintro e w1 ⟨r1, hr1, rfl, a1, h11, h12, D1, C1, S1⟩
  obtain ⟨N, hN⟩ : ∃ N : Int, (1 + (r1 : Int)) = N := ⟨_, rfl⟩
  have hN1 : -1 ≤ N ∧ N ≤ 65 := by omega
  go_wp2_with (fail)
  refine (one_s g A n c a1 20 _ D1 hn (by omega) (by omega)).mono ?_; rintro e w3 ⟨b3, rfl, a3, h31, h32, D3, C3, S3⟩
  have HC3 := Lib.hid (C1.trans C3)
  have z3 : w.heap.size ≤ w3.heap.size := by omega
  clear h C1 C3 D1 S1 S3
  cases b3
  · have hA3 : a3 ≤ a + 4 := by omega
    clear h11 h12 h31 h32
    clear hr1 hN
    have HO0 : Hid (EqT w3.heap.size (w3.heap.size + 1) (w3.alloc (.cells #[] 34)) (.slice (some ⟨w3.heap.size, 0, none⟩) 0 0) []) := Lib.hid ⟨OwnL.of_empty w3 (Nat.le_refl _), fun g h => by simp [Value.ownBlock] at h; omega, fun j p h => by simp at h, Split.nil⟩
    have hgw3 : g < w3.heap.size := D3.lt
    have D4 := D3.alloc (.cells #[] 34)
    have HC4 := Lib.hid (HC3.out.alloc (.cells #[] 34))
    clear HC3 D3
    go_wp2_with (fail)
    refine (pick_s g A n c a3 8 _ D4 hn (by omega) (by omega)).mono ?_; rintro e w5 ⟨r5, hr5, rfl, a5, h51, h52, D5, C5, S5⟩
    have HC5 := Lib.hid (HC4.out.trans C5)
    have HO5 := Lib.hid (EqT.chg HO0.out C5 (.inr (by omega)))
    have z5 : w3.heap.size + 1 ≤ w5.heap.size := by rw [S5]; simp
    have HO5' := Lib.hid (HO5.out.mono z5)
    have hr5' : r5 ≤ 7 := by omega
    generalize hB3 : w3.heap.size = B3 at *
    have hBw : w.heap.size ≤ B3 := by omega
    clear HO0 HC4 D4 C5 S5 HO5 hr5 hB3
    go_wp2_with (fail)
    go_loopw [6, 5] (fun i x wr => ∃ (k a' : Nat) (pl : List (Eqn × Value)), i = .int .i64 k ∧ k ≤ 7 ∧ pl.length + k ≤ 7 ∧ a' + 20 * k ≤ a + 300 ∧ DrAt wr g A n c a' ∧ B3 + 1 ≤ wr.heap.size ∧ Hid (Chg g (g + 1) w wr) ∧ Hid (EqT B3 wr.heap.size wr x pl) ∧ Hid (∀ p ∈ pl, p.1.bits.length ≤ 8)) (fun i _ _ => (intOf i).toNat)
    case atStart => exact ⟨r5, a5, [], rfl, hr5', by simp; omega, by omega, D5, z5, HC5, HO5', Lib.hid (by simp)⟩
    case round =>
      clear D5 HC5 HO5' z5
      obtain ⟨k, a6, pl, rfl, hk, hpk, ha6, D6, z6, HC6, HT6, HL6⟩ := hrel
      have hgr : g < wr.heap.size := D6.lt
      obtain ⟨Ao, co, rfl, _⟩ := OwnL.shape HT6.out.row
      by_cases hk0 : 0 < k
      · generalize hwo : wr = wo at *; clear hwo
        go_wp2_with (fail)
        refine (pick_s g A n c a6 2 _ D6 hn (by omega) (by omega)).mono ?_; rintro e w7 ⟨r7, hr7, rfl, a7, h71, h72, D7, C7, S7⟩
        have C7w := C7
        have D8 := D7.alloc (.cells #[.slice none 0 0, .int .i64 (r7 : Int)] 34)
        have C8 : Chg g (g + 1) wo (w7.alloc (.cells #[.slice none 0 0, .int .i64 (r7 : Int)] 34)) := C7.alloc _
        have x0 : (w7.alloc (.cells #[.slice none 0 0, .int .i64 (r7 : Int)] 34)).cell? ⟨w7.heap.size, 0, none⟩ = some (.slice none 0 0) := by simp [go_sem]
        have x1 : (w7.alloc (.cells #[.slice none 0 0, .int .i64 (r7 : Int)] 34)).cell? ⟨w7.heap.size, 1, none⟩ = some (.int .i64 (r7 : Int)) := by simp [go_sem]
        have f0 : (w7.alloc (.cells #[.slice none 0 0, .int .i64 (r7 : Int)] 34)).frozen? ⟨w7.heap.size, 0, none⟩ = false := by simp [go_sem]
        have z8 : (w7.alloc (.cells #[.slice none 0 0, .int .i64 (r7 : Int)] 34)).heap.size = wo.heap.size + 1 := by simp [S7]
        rw [S7] at x0 x1 f0
        have hr7' : r7 ≤ 1 := by omega
        clear D6 D7 C7 hr7
        go_wp2_with (fail)
        generalize (w7.alloc (.cells #[.slice none 0 0, .int .i64 (r7 : Int)] 34)) = w8 at *
        refine (pick_s g A n c a7 5 _ D8 hn (by omega) (by omega)).mono ?_; rintro e w9 ⟨r9, hr9, rfl, a9, h91, h92, D9, C9, S9⟩
        have x0' := chg_cell x0 C9 (by omega)
        have x1' := chg_cell x1 C9 (by omega)
        have f0' := chg_fr f0 C9 (by omega) (by omega)
        have HC9 := Lib.hid (C8.trans C9)
        have z9 : w9.heap.size = wo.heap.size + 1 := by omega
        have HI9 : Hid (Int64L wo.heap.size w9 (.slice none 0 0) (intsN [])) := Lib.hid OwnL.of_nil
        have hr9' : r9 ≤ 4 := by omega
        clear D8 C8 C9 S9 hr9 x0 x1 f0 z8 S7 C7w
        go_wp2_with (fail)
        go_loopw [8] (fun i wx => ∃ (m a' : Nat) (bv : Value) (u : List Nat), i = .int .i64 m ∧ m ≤ 4 ∧ u.length + m ≤ 4 ∧ a' + 2 * m ≤ a6 + 14 ∧ DrAt wx g A n c a' ∧ wo.heap.size + 1 ≤ wx.heap.size ∧ Hid (Chg g (g + 1) wo wx) ∧ Hid (Int64L wo.heap.size wx bv (intsN u)) ∧ bv.ownBlock ≠ some wo.heap.size ∧ wx.cell? ⟨wo.heap.size, 0, none⟩ = some bv ∧ wx.cell? ⟨wo.heap.size, 1, none⟩ = some (.int .i64 (r7 : Int)) ∧ wx.frozen? ⟨wo.heap.size, 0, none⟩ = false) (fun i _ => (intOf i).toNat)
        case atStart => exact ⟨r9, a9, .slice none 0 0, [], rfl, hr9', by simp; omega, by omega, D9, by omega, HC9, HI9, by simp [Value.ownBlock], x0', x1', f0'⟩
        case round =>
          clear D9 HC9 HI9 x0' x1' f0' z9
          obtain ⟨m, a10, bv, u, rfl, hm, hum, ha10, D10, z10, HC10, HI10, hbv, y0, y1, g0⟩ := hrel
          obtain ⟨Ab, nb, cb, rfl⟩ : ∃ A n c, bv = .slice A n c := by obtain ⟨A1, c1, e1, _⟩ := OwnL.shape HI10.out; exact ⟨A1, _, c1, e1⟩
          by_cases hm0 : 0 < m
          · by_cases hN0 : 0 < N
            · obtain ⟨M, rfl⟩ := Int.eq_ofNat_of_zero_le (show 0 ≤ N by omega)
              have hM : M ≤ 65 := by omega
              have D10d : DrAt wr.drew g A n c a10 := D10.keep (fun _ _ => rfl) (Nat.le_refl _)
              have HI10d := Lib.hid (OwnL.below HI10.out (Below.refl wr.heap.size wr).drew)
              have HC10d := Lib.hid (HC10.out.trans (Chg.of_below (Below.refl wr.heap.size wr).drew))
              have y0d : wr.drew.cell? ⟨wo.heap.size, 0, none⟩ = some (.slice Ab nb cb) := y0
              have y0e : ({ wr with drawn := wr.drawn + 1 } : World).cell? ⟨wo.heap.size, 0, none⟩ = some (.slice Ab nb cb) := y0
              have y1d : wr.drew.cell? ⟨wo.heap.size, 1, none⟩ = some (.int .i64 (r7 : Int)) := y1
              have g0d : wr.drew.frozen? ⟨wo.heap.size, 0, none⟩ = false := g0
              have zd : wr.drew.heap.size = wr.heap.size := rfl
              have hHB := HI10d
              clear D10 HI10 HC10
              go_wp2_with (fail)
              go_region_law (go_simp; first
                | (go_at_call 36; refine (pick_s g A n c a10 M _ D10d hn (by omega) (by omega)).mono ?_; rintro e w11 ⟨r11, hr11, rfl, hp11⟩; dsimp only; obtain ⟨a11, h111, h112, D11, C11, S11⟩ := hp11; have u0 := chg_cell y0d C11 (by omega); have u1 := chg_cell y1d C11 (by omega); have ug := chg_fr g0d C11 (by omega) (by omega); have HI11 := Lib.hid (OwnL.chgIn HI10d.out C11 (by omega)); have HC11 := Lib.hid (HC10d.out.trans C11); clear C11)
                | (go_at_call 39; refine (lput_s u r11 _ w11 (intsAt_own HI11.out) (by omega)).mono ?_; rintro e w12 ⟨v12, rfl, o12, hb12⟩; dsimp only; have D12 := D11.belowK hb12 D11.lt; have q0 := bel_cell u0 hb12; have q1 := bel_cell u1 hb12; have qg := bel_fr ug hb12 (by omega); have HC12 := Lib.hid (HC11.out.trans (Chg.of_below hb12)); have z12 := hb12.size; have HO12 := Lib.hid o12; obtain ⟨A12, n12, c12, rfl⟩ : ∃ A n c, v12 = .slice A n c := (by obtain ⟨A1, c1, e1, _⟩ := OwnL.shape o12; exact ⟨A1, _, c1, e1⟩); clear o12 hb12))
              all_goals
                have hui := insU_len r11 u
                go_wp2
                go_roundw
                case rel => exact ⟨m - 1, a11, .slice A12 n12 c12, insU r11 u, by go_num, by omega, by omega, by omega, D12.setNew (by omega) _, by simp; omega, Lib.hid (HC12.out.setNew (Nat.le_refl _) _), Lib.hid (OwnL.base (far_set HO12.out (by omega)) (by omega)), fun e2 => by have := (World.ownsRow.lt HO12.out _ e2).1; omega, World.cell?_setCell_same _ _ _ q0, (World.cell?_setCell_other _ _ _ _ (by intro e; injection e with _ e _; omega)).trans q1, (World.frozen?_setCell _ _ _ _).trans qg⟩
                case measure => simp [intOf]; omega
            · have d0 : decide (0 < N) = false := decide_eq_false hN0
              have HT10 := Lib.hid (EqT.chg HT6.out HC10.out (.inr (by omega)))
              have hbase : B3 ≤ (wr.alloc (.cells #[.slice Ab nb cb, .int .i64 (r7 : Int)] 34)).heap.size := by simp; omega
              have HT2 := Lib.hid (HT10.out.below (Below.alloc (Below.refl wr.heap.size wr) (Nat.le_refl _) (.cells #[.slice Ab nb cb, .int .i64 (r7 : Int)] 34)))
              have HBV := Lib.hid (OwnL.base (OwnL.alloc HI10.out (.cells #[.slice Ab nb cb, .int .i64 (r7 : Int)] 34)) (show B3 ≤ wo.heap.size by omega))
              have HBN := Lib.hid (fun b (hb : (Value.slice Ab nb cb).ownBlock = some b) => (World.ownsRow.lt HI10.out b hb).1)
              have hp1 : pl.length + 1 ≤ 16777216 := by omega
              have hone : ∀ u' ∈ epc ((⟨intsN u, (r7 : Int)⟩, .slice Ab nb cb) : Eqn × Value), u'.oneCell' = true := eqn_one _ ⟨_, _, _, rfl⟩
              have HLu : Hid (u.length ≤ 8) := Lib.hid (by omega)
              have zwo : wo.heap.size ≤ (wr.alloc (.cells #[.slice Ab nb cb, .int .i64 (r7 : Int)] 34)).heap.size := by simp; omega
              have Da := D10.alloc (.cells #[.slice Ab nb cb, .int .i64 (r7 : Int)] 34)
              have HCa := Lib.hid ((HC6.out.trans HC10.out).alloc (.cells #[.slice Ab nb cb, .int .i64 (r7 : Int)] 34))
              clear HI10 HC10 D10 HT10
              go_wp2_with (at_builtin; refine wpList_app1at epc 2 epc_len _ rfl _ _ _ rfl B3 34 i1 (.agg #[.slice none 0 0, .int .i64 0]) 32 Tryd.underlying24 ji jz0 jz1 jz2 rfl (by decide) _ pl rfl HT2.out.row _ 1 (⟨intsN u, (r7 : Int)⟩, .slice Ab nb cb) rfl ?_ hone hp1 (by decide) hbase ?_; (· exact epc_news (by simp [go_sem]) (by simp [go_sem])); intro v' w13 how13 hg13 hbl13; have hT13 := EqT.snoc HT2.out zwo (e := ⟨intsN u, (r7 : Int)⟩) (bv := .slice Ab nb cb) HBV.out HBN.out how13 hg13 hbl13; have HT13 := Lib.hid hT13; have hrow : ∀ k, (Value.slice Ao pl.length co).ownBlock = some k → B3 ≤ k := (fun k hk => (HT2.out.row.lt k hk).1); have D13 := DrAt.grown Da hg13 (fun k hk => by have := hrow k hk; omega); have HC13 := Lib.hid (Chg.grown HCa.out hg13 (fun k hk => by have := hrow k hk; omega)); have z13 := hg13.size; have z13' : wo.heap.size ≤ w13.heap.size := Nat.le_trans zwo z13; clear how13 hg13 hbl13 hT13 z13)
              go_roundw
              case rel => exact ⟨k - 1, a10, _, by go_num, by omega, by simp; omega, by omega, D13, by omega, HC13, HT13, Lib.hid (fun p hp => by
                rcases List.mem_append.1 hp with hp | hp
                · exact HL6.out p hp
                · obtain rfl : p = (⟨intsN u, (r7 : Int)⟩, .slice Ab nb cb) := by simpa using hp
                  show (intsN u).length ≤ 8
                  rw [intsN_len]; exact HLu.out)⟩
              case measure => simp [intOf]; omega
          · obtain rfl : m = 0 := by omega
            have HT10 := Lib.hid (EqT.chg HT6.out HC10.out (.inr (by omega)))
            have hbase : B3 ≤ (wr.alloc (.cells #[.slice Ab nb cb, .int .i64 (r7 : Int)] 34)).heap.size := by simp; omega
            have HT2 := Lib.hid (HT10.out.below (Below.alloc (Below.refl wr.heap.size wr) (Nat.le_refl _) (.cells #[.slice Ab nb cb, .int .i64 (r7 : Int)] 34)))
            have HBV := Lib.hid (OwnL.base (OwnL.alloc HI10.out (.cells #[.slice Ab nb cb, .int .i64 (r7 : Int)] 34)) (show B3 ≤ wo.heap.size by omega))
            have HBN := Lib.hid (fun b (hb : (Value.slice Ab nb cb).ownBlock = some b) => (World.ownsRow.lt HI10.out b hb).1)
            have hp1 : pl.length + 1 ≤ 16777216 := by omega
            have hone : ∀ u' ∈ epc ((⟨intsN u, (r7 : Int)⟩, .slice Ab nb cb) : Eqn × Value), u'.oneCell' = true := eqn_one _ ⟨_, _, _, rfl⟩
            have HLu : Hid (u.length ≤ 8) := Lib.hid (by omega)
            have zwo : wo.heap.size ≤ (wr.alloc (.cells #[.slice Ab nb cb, .int .i64 (r7 : Int)] 34)).heap.size := by simp; omega
            have Da := D10.alloc (.cells #[.slice Ab nb cb, .int .i64 (r7 : Int)] 34)
            have HCa := Lib.hid ((HC6.out.trans HC10.out).alloc (.cells #[.slice Ab nb cb, .int .i64 (r7 : Int)] 34))
            clear HI10 HC10 D10 HT10
            go_wp2_with (at_builtin; refine wpList_app1at epc 2 epc_len _ rfl _ _ _ rfl B3 34 i1 (.agg #[.slice none 0 0, .int .i64 0]) 32 Tryd.underlying24 ji jz0 jz1 jz2 rfl (by decide) _ pl rfl HT2.out.row _ 1 (⟨intsN u, (r7 : Int)⟩, .slice Ab nb cb) rfl ?_ hone hp1 (by decide) hbase ?_; (· exact epc_news (by simp [go_sem]) (by simp [go_sem])); intro v' w13 how13 hg13 hbl13; have hT13 := EqT.snoc HT2.out zwo (e := ⟨intsN u, (r7 : Int)⟩) (bv := .slice Ab nb cb) HBV.out HBN.out how13 hg13 hbl13; have HT13 := Lib.hid hT13; have hrow : ∀ k, (Value.slice Ao pl.length co).ownBlock = some k → B3 ≤ k := (fun k hk => (HT2.out.row.lt k hk).1); have D13 := DrAt.grown Da hg13 (fun k hk => by have := hrow k hk; omega); have HC13 := Lib.hid (Chg.grown HCa.out hg13 (fun k hk => by have := hrow k hk; omega)); have z13 := hg13.size; have z13' : wo.heap.size ≤ w13.heap.size := Nat.le_trans zwo z13; clear how13 hg13 hbl13 hT13 z13)
            go_roundw
            case rel => exact ⟨k - 1, a10, _, by go_num, by omega, by simp; omega, by omega, D13, by omega, HC13, HT13, Lib.hid (fun p hp => by
              rcases List.mem_append.1 hp with hp | hp
              · exact HL6.out p hp
              · obtain rfl : p = (⟨intsN u, (r7 : Int)⟩, .slice Ab nb cb) := by simpa using hp
                show (intsN u).length ≤ 8
                rw [intsN_len]; exact HLu.out)⟩
            case measure => simp [intOf]; omega
      · obtain rfl : k = 0 := by omega
        go_wp2_with (fail)
        refine (one_s g A n c a6 24 _ D6 hn (by omega) (by omega)).mono ?_; rintro e w14 ⟨b14, rfl, a14, h141, h142, D14, C14, S14⟩
        have HT14 := Lib.hid (EqT.chg HT6.out C14 (.inr (by omega)))
        have HC14 := Lib.hid (HC6.out.trans C14)
        have z14 : B3 + 1 ≤ w14.heap.size := by omega
        rw [← S14] at HT14
        clear D6 HC6 HT6 C14 S14 z6
        cases b14
        · have HT15 := HT14.out
          go_wp2
          exact bodyPost_ret (v := .tuple #[.slice Ao pl.length co, .int .i64 N]) (by simp [results, Tryd.results19, go_sem]) rfl ⟨_, _, N, rfl, ⟨pl, rfl, ⟨OwnL.base HT15.row hBw, HT15.lt, fun j p hj => ⟨OwnL.base (HT15.parts j p hj).1 hBw, (HT15.parts j p hj).2⟩, HT15.split⟩⟩, by rw [List.length_map]; omega, fun e he => by
            obtain ⟨p, hp, rfl⟩ := List.mem_map.1 he
            exact HL6.out p hp, hN1, HC14.out⟩
        · have D15 := D14.alloc (.cells #[.int .i64 (-1), .int .i64 0, .int .i64 64] 2)
          have HC15 := Lib.hid (HC14.out.alloc (.cells #[.int .i64 (-1), .int .i64 0, .int .i64 64] 2))
          have hT15 := HT14.out.below (Below.alloc (Below.refl w14.heap.size w14) (Nat.le_refl _) (.cells #[.int .i64 (-1), .int .i64 0, .int .i64 64] 2))
          have HT15 := Lib.hid hT15
          have hg14 : g < w14.heap.size := D14.lt
          clear D14 HC14 hT15
          go_wp2_with (fail)
          refine (among_s g A n c a14 w14.heap.size 3 [-1, 0, 64] _ D15 hn (by omega) (by simp) (by simp) hg14 (by simp) ?_).mono ?_
          · intro j x hj
            match j, hj with
            | 0, hj => simp at hj; subst hj; simp
            | 1, hj => simp at hj; subst hj; simp
            | 2, hj => simp at hj; subst hj; simp
            | j + 3, hj => simp at hj
          rintro e w16 ⟨x16, hx16, rfl, a16, h161, h162, D16, C16, S16⟩
          have HC16 := Lib.hid (HC15.out.trans C16)
          have HT16 := Lib.hid (EqT.chg HT15.out C16 (.inr (by omega)))
          have z16 : w14.heap.size + 1 ≤ w16.heap.size := by rw [S16]; simp
          clear D15 HC15 HT15 C16 S16 hx16
          have D17 := D16.alloc (.cells #[.int .i64 x16] 2)
          have HC17 := Lib.hid (HC16.out.alloc (.cells #[.int .i64 x16] 2))
          have HT17 := Lib.hid (HT16.out.below (Below.alloc (Below.refl w16.heap.size w16) (Nat.le_refl _) (.cells #[.int .i64 x16] 2)))
          have HI17 := Lib.hid (Int64L.built1 w16 w16.heap.size x16 (Nat.le_refl _))
          clear D16 HC16 HT16
          go_wp2_with (fail)
          refine (pick_s g A n c a16 3 _ D17 hn (by omega) (by omega)).mono ?_; rintro e w18 ⟨r18, hr18, rfl, a18, h181, h182, D18, C18, S18⟩
          have HC18 := Lib.hid (HC17.out.trans C18)
          have HT18 := Lib.hid (EqT.chg HT17.out C18 (.inr (by omega)))
          have HI18 := Lib.hid (OwnL.chgIn HI17.out C18 (by omega))
          have z18 : w16.heap.size + 1 ≤ w18.heap.size := by rw [S18]; simp
          generalize hb16 : w16.heap.size = b16 at *
          clear D17 HC17 HT17 HI17 C18 S18 hr18 hb16
          have hbase : B3 ≤ (w18.alloc (.cells #[.slice (some ⟨b16, 0, none⟩) 1 1, .int .i64 (r18 : Int)] 34)).heap.size := by simp; omega
          have HT2 := Lib.hid (HT18.out.below (Below.alloc (Below.refl w18.heap.size w18) (Nat.le_refl _) (.cells #[.slice (some ⟨b16, 0, none⟩) 1 1, .int .i64 (r18 : Int)] 34)))
          have HBV := Lib.hid (OwnL.base (OwnL.alloc HI18.out (.cells #[.slice (some ⟨b16, 0, none⟩) 1 1, .int .i64 (r18 : Int)] 34)) (show B3 ≤ b16 by omega))
          have HBN : Hid (∀ b, (Value.slice (some ⟨b16, 0, none⟩) 1 1).ownBlock = some b → w14.heap.size ≤ b) := Lib.hid (fun b hb => by simp [Value.ownBlock] at hb; omega)
          have hp1 : pl.length + 1 ≤ 16777216 := by omega
          have hone : ∀ u' ∈ epc ((⟨[x16], (r18 : Int)⟩, .slice (some ⟨b16, 0, none⟩) 1 1) : Eqn × Value), u'.oneCell' = true := eqn_one _ ⟨_, _, _, rfl⟩
          have zwo : w14.heap.size ≤ (w18.alloc (.cells #[.slice (some ⟨b16, 0, none⟩) 1 1, .int .i64 (r18 : Int)] 34)).heap.size := by simp; omega
          have HCa := Lib.hid (HC18.out.alloc (.cells #[.slice (some ⟨b16, 0, none⟩) 1 1, .int .i64 (r18 : Int)] 34))
          clear HI18 HC18 HT18 HT14 D18
          go_wp2_with (at_builtin; refine wpList_app1at epc 2 epc_len _ rfl _ _ _ rfl B3 34 i1 (.agg #[.slice none 0 0, .int .i64 0]) 32 Tryd.underlying24 ji jz0 jz1 jz2 rfl (by decide) _ pl rfl HT2.out.row _ 1 (⟨[x16], (r18 : Int)⟩, .slice (some ⟨b16, 0, none⟩) 1 1) rfl ?_ hone hp1 (by decide) hbase ?_; (· exact epc_news (by simp [go_sem]) (by simp [go_sem])); intro v' w13 how13 hg13 hbl13; have hT13 := EqT.snoc HT2.out zwo (e := ⟨[x16], (r18 : Int)⟩) (bv := .slice (some ⟨b16, 0, none⟩) 1 1) HBV.out HBN.out how13 hg13 hbl13; have HT13 := Lib.hid hT13; have hrow : ∀ k, (Value.slice Ao pl.length co).ownBlock = some k → B3 ≤ k := (fun k hk => (HT2.out.row.lt k hk).1); have HC13 := Lib.hid (Chg.grown HCa.out hg13 (fun k hk => by have := hrow k hk; omega)); obtain ⟨A13, c13, hv13, _⟩ := OwnL.shape how13; clear how13 hg13 hbl13 hT13)
          subst hv13
          have HT15 := HT13.out
          exact bodyPost_ret (v := .tuple #[.slice A13 (pl ++ [((⟨[x16], (r18 : Int)⟩, .slice (some ⟨b16, 0, none⟩) 1 1) : Eqn × Value)]).length c13, .int .i64 N]) (by simp [results, Tryd.results19, go_sem]) rfl ⟨_, _, N, rfl, ⟨_, rfl, ⟨OwnL.base HT15.row hBw, HT15.lt, fun j p hj => ⟨OwnL.base (HT15.parts j p hj).1 hBw, (HT15.parts j p hj).2⟩, HT15.split⟩⟩, by simp; omega, fun e he => by
            obtain ⟨p, hp, rfl⟩ := List.mem_map.1 he
            rcases List.mem_append.1 hp with hp | hp
            · exact HL6.out p hp
            · obtain rfl : p = (⟨[x16], (r18 : Int)⟩, .slice (some ⟨b16, 0, none⟩) 1 1) := by simpa using hp
              show 1 ≤ 8; omega, hN1, HC13.out⟩
  · have D3a := D3.alloc (.cells #[.int .i64 (-1), .int .i64 0, .int .i64 64, .int .i64 65] 2)
    have HC3a := Lib.hid (HC3.out.alloc (.cells #[.int .i64 (-1), .int .i64 0, .int .i64 64, .int .i64 65] 2))
    have hgw3' : g < w3.heap.size := D3.lt
    clear D3 HC3 hr1 hN hN1
    go_wp2_with (fail)
    refine (among_s g A n c a3 w3.heap.size 4 [-1, 0, 64, 65] _ D3a hn (by omega) (by simp) (by simp) hgw3' (by simp) ?_).mono ?_
    · intro j x hj
      match j, hj with
      | 0, hj => simp at hj; subst hj; simp
      | 1, hj => simp at hj; subst hj; simp
      | 2, hj => simp at hj; subst hj; simp
      | 3, hj => simp at hj; subst hj; simp
      | j + 4, hj => simp at hj
    rintro e w4 ⟨N4, hN4, rfl, a4, h41, h42, D4, C4, S4⟩
    have hN4' : -1 ≤ N4 ∧ N4 ≤ 65 := by simp at hN4; omega
    have HC4 := Lib.hid (HC3a.out.trans C4)
    have z4 : w.heap.size ≤ w4.heap.size := by rw [S4]; simp; omega
    have hA4 : a4 ≤ a + 6 := by omega
    generalize w3.heap.size = q3 at *
    clear D3a HC3a C4 S4 hN4 hgw3' z3 h11 h12 h31 h32 h41 h42
    clear w3
    obtain ⟨M3, hM3⟩ : ∃ M3, M3 = N := ⟨_, rfl⟩
    rw [← hM3]
    clear hM3
    clear a3
    revert hN4' HC4 z4 hA4 D4
    revert a4 w4 N4
    clear N
    intro w3 N a3 D3 hN1 HC3 z3 hA3
    have HO0 : Hid (EqT w3.heap.size (w3.heap.size + 1) (w3.alloc (.cells #[] 34)) (.slice (some ⟨w3.heap.size, 0, none⟩) 0 0) []) := Lib.hid ⟨OwnL.of_empty w3 (Nat.le_refl _), fun g h => by simp [Value.ownBlock] at h; omega, fun j p h => by simp at h, Split.nil⟩
    have hgw3 : g < w3.heap.size := D3.lt
    have D4 := D3.alloc (.cells #[] 34)
    have HC4 := Lib.hid (HC3.out.alloc (.cells #[] 34))
    clear HC3 D3
    go_wp2_with (fail)
    refine (pick_s g A n c a3 8 _ D4 hn (by omega) (by omega)).mono ?_; rintro e w5 ⟨r5, hr5, rfl, a5, h51, h52, D5, C5, S5⟩
    have HC5 := Lib.hid (HC4.out.trans C5)
    have HO5 := Lib.hid (EqT.chg HO0.out C5 (.inr (by omega)))
    have z5 : w3.heap.size + 1 ≤ w5.heap.size := by rw [S5]; simp
    have HO5' := Lib.hid (HO5.out.mono z5)
    have hr5' : r5 ≤ 7 := by omega
    generalize hB3 : w3.heap.size = B3 at *
    have hBw : w.heap.size ≤ B3 := by omega
    clear HO0 HC4 D4 C5 S5 HO5 hr5 hB3
    go_wp2_with (fail)
    go_loopw [6, 5] (fun i x wr => ∃ (k a' : Nat) (pl : List (Eqn × Value)), i = .int .i64 k ∧ k ≤ 7 ∧ pl.length + k ≤ 7 ∧ a' + 20 * k ≤ a + 300 ∧ DrAt wr g A n c a' ∧ B3 + 1 ≤ wr.heap.size ∧ Hid (Chg g (g + 1) w wr) ∧ Hid (EqT B3 wr.heap.size wr x pl) ∧ Hid (∀ p ∈ pl, p.1.bits.length ≤ 8)) (fun i _ _ => (intOf i).toNat)
    case atStart => exact ⟨r5, a5, [], rfl, hr5', by simp; omega, by omega, D5, z5, HC5, HO5', Lib.hid (by simp)⟩
    case round =>
      clear D5 HC5 HO5' z5
      obtain ⟨k, a6, pl, rfl, hk, hpk, ha6, D6, z6, HC6, HT6, HL6⟩ := hrel
      have hgr : g < wr.heap.size := D6.lt
      obtain ⟨Ao, co, rfl, _⟩ := OwnL.shape HT6.out.row
      by_cases hk0 : 0 < k
      · generalize hwo : wr = wo at *; clear hwo
        go_wp2_with (fail)
        refine (pick_s g A n c a6 2 _ D6 hn (by omega) (by omega)).mono ?_; rintro e w7 ⟨r7, hr7, rfl, a7, h71, h72, D7, C7, S7⟩
        have C7w := C7
        have D8 := D7.alloc (.cells #[.slice none 0 0, .int .i64 (r7 : Int)] 34)
        have C8 : Chg g (g + 1) wo (w7.alloc (.cells #[.slice none 0 0, .int .i64 (r7 : Int)] 34)) := C7.alloc _
        have x0 : (w7.alloc (.cells #[.slice none 0 0, .int .i64 (r7 : Int)] 34)).cell? ⟨w7.heap.size, 0, none⟩ = some (.slice none 0 0) := by simp [go_sem]
        have x1 : (w7.alloc (.cells #[.slice none 0 0, .int .i64 (r7 : Int)] 34)).cell? ⟨w7.heap.size, 1, none⟩ = some (.int .i64 (r7 : Int)) := by simp [go_sem]
        have f0 : (w7.alloc (.cells #[.slice none 0 0, .int .i64 (r7 : Int)] 34)).frozen? ⟨w7.heap.size, 0, none⟩ = false := by simp [go_sem]
        have z8 : (w7.alloc (.cells #[.slice none 0 0, .int .i64 (r7 : Int)] 34)).heap.size = wo.heap.size + 1 := by simp [S7]
        rw [S7] at x0 x1 f0
        have hr7' : r7 ≤ 1 := by omega
        clear D6 D7 C7 hr7
        go_wp2_with (fail)
        generalize (w7.alloc (.cells #[.slice none 0 0, .int .i64 (r7 : Int)] 34)) = w8 at *
        refine (pick_s g A n c a7 5 _ D8 hn (by omega) (by omega)).mono ?_; rintro e w9 ⟨r9, hr9, rfl, a9, h91, h92, D9, C9, S9⟩
        have x0' := chg_cell x0 C9 (by omega)
        have x1' := chg_cell x1 C9 (by omega)
        have f0' := chg_fr f0 C9 (by omega) (by omega)
        have HC9 := Lib.hid (C8.trans C9)
        have z9 : w9.heap.size = wo.heap.size + 1 := by omega
        have HI9 : Hid (Int64L wo.heap.size w9 (.slice none 0 0) (intsN [])) := Lib.hid OwnL.of_nil
        have hr9' : r9 ≤ 4 := by omega
        clear D8 C8 C9 S9 hr9 x0 x1 f0 z8 S7 C7w
        go_wp2_with (fail)
        go_loopw [8] (fun i wx => ∃ (m a' : Nat) (bv : Value) (u : List Nat), i = .int .i64 m ∧ m ≤ 4 ∧ u.length + m ≤ 4 ∧ a' + 2 * m ≤ a6 + 14 ∧ DrAt wx g A n c a' ∧ wo.heap.size + 1 ≤ wx.heap.size ∧ Hid (Chg g (g + 1) wo wx) ∧ Hid (Int64L wo.heap.size wx bv (intsN u)) ∧ bv.ownBlock ≠ some wo.heap.size ∧ wx.cell? ⟨wo.heap.size, 0, none⟩ = some bv ∧ wx.cell? ⟨wo.heap.size, 1, none⟩ = some (.int .i64 (r7 : Int)) ∧ wx.frozen? ⟨wo.heap.size, 0, none⟩ = false) (fun i _ => (intOf i).toNat)
        case atStart => exact ⟨r9, a9, .slice none 0 0, [], rfl, hr9', by simp; omega, by omega, D9, by omega, HC9, HI9, by simp [Value.ownBlock], x0', x1', f0'⟩
        case round =>
          clear D9 HC9 HI9 x0' x1' f0' z9
          obtain ⟨m, a10, bv, u, rfl, hm, hum, ha10, D10, z10, HC10, HI10, hbv, y0, y1, g0⟩ := hrel
          obtain ⟨Ab, nb, cb, rfl⟩ : ∃ A n c, bv = .slice A n c := by obtain ⟨A1, c1, e1, _⟩ := OwnL.shape HI10.out; exact ⟨A1, _, c1, e1⟩
          by_cases hm0 : 0 < m
          · by_cases hN0 : 0 < N
            · obtain ⟨M, rfl⟩ := Int.eq_ofNat_of_zero_le (show 0 ≤ N by omega)
              have hM : M ≤ 65 := by omega
              have D10d : DrAt wr.drew g A n c a10 := D10.keep (fun _ _ => rfl) (Nat.le_refl _)
              have HI10d := Lib.hid (OwnL.below HI10.out (Below.refl wr.heap.size wr).drew)
              have HC10d := Lib.hid (HC10.out.trans (Chg.of_below (Below.refl wr.heap.size wr).drew))
              have y0d : wr.drew.cell? ⟨wo.heap.size, 0, none⟩ = some (.slice Ab nb cb) := y0
              have y0e : ({ wr with drawn := wr.drawn + 1 } : World).cell? ⟨wo.heap.size, 0, none⟩ = some (.slice Ab nb cb) := y0
              have y1d : wr.drew.cell? ⟨wo.heap.size, 1, none⟩ = some (.int .i64 (r7 : Int)) := y1
              have g0d : wr.drew.frozen? ⟨wo.heap.size, 0, none⟩ = false := g0
              have zd : wr.drew.heap.size = wr.heap.size := rfl
              have hHB := HI10d
              clear D10 HI10 HC10
              go_wp2_with (fail)
              go_region_law (go_simp; first
                | (go_at_call 36; refine (pick_s g A n c a10 M _ D10d hn (by omega) (by omega)).mono ?_; rintro e w11 ⟨r11, hr11, rfl, hp11⟩; dsimp only; obtain ⟨a11, h111, h112, D11, C11, S11⟩ := hp11; have u0 := chg_cell y0d C11 (by omega); have u1 := chg_cell y1d C11 (by omega); have ug := chg_fr g0d C11 (by omega) (by omega); have HI11 := Lib.hid (OwnL.chgIn HI10d.out C11 (by omega)); have HC11 := Lib.hid (HC10d.out.trans C11); clear C11)
                | (go_at_call 39; refine (lput_s u r11 _ w11 (intsAt_own HI11.out) (by omega)).mono ?_; rintro e w12 ⟨v12, rfl, o12, hb12⟩; dsimp only; have D12 := D11.belowK hb12 D11.lt; have q0 := bel_cell u0 hb12; have q1 := bel_cell u1 hb12; have qg := bel_fr ug hb12 (by omega); have HC12 := Lib.hid (HC11.out.trans (Chg.of_below hb12)); have z12 := hb12.size; have HO12 := Lib.hid o12; obtain ⟨A12, n12, c12, rfl⟩ : ∃ A n c, v12 = .slice A n c := (by obtain ⟨A1, c1, e1, _⟩ := OwnL.shape o12; exact ⟨A1, _, c1, e1⟩); clear o12 hb12))
              all_goals
                have hui := insU_len r11 u
                go_wp2
                go_roundw
                case rel => exact ⟨m - 1, a11, .slice A12 n12 c12, insU r11 u, by go_num, by omega, by omega, by omega, D12.setNew (by omega) _, by simp; omega, Lib.hid (HC12.out.setNew (Nat.le_refl _) _), Lib.hid (OwnL.base (far_set HO12.out (by omega)) (by omega)), fun e2 => by have := (World.ownsRow.lt HO12.out _ e2).1; omega, World.cell?_setCell_same _ _ _ q0, (World.cell?_setCell_other _ _ _ _ (by intro e; injection e with _ e _; omega)).trans q1, (World.frozen?_setCell _ _ _ _).trans qg⟩
                case measure => simp [intOf]; omega
            · have d0 : decide (0 < N) = false := decide_eq_false hN0
              have HT10 := Lib.hid (EqT.chg HT6.out HC10.out (.inr (by omega)))
              have hbase : B3 ≤ (wr.alloc (.cells #[.slice Ab nb cb, .int .i64 (r7 : Int)] 34)).heap.size := by simp; omega
              have HT2 := Lib.hid (HT10.out.below (Below.alloc (Below.refl wr.heap.size wr) (Nat.le_refl _) (.cells #[.slice Ab nb cb, .int .i64 (r7 : Int)] 34)))
              have HBV := Lib.hid (OwnL.base (OwnL.alloc HI10.out (.cells #[.slice Ab nb cb, .int .i64 (r7 : Int)] 34)) (show B3 ≤ wo.heap.size by omega))
              have HBN := Lib.hid (fun b (hb : (Value.slice Ab nb cb).ownBlock = some b) => (World.ownsRow.lt HI10.out b hb).1)
              have hp1 : pl.length + 1 ≤ 16777216 := by omega
              have hone : ∀ u' ∈ epc ((⟨intsN u, (r7 : Int)⟩, .slice Ab nb cb) : Eqn × Value), u'.oneCell' = true := eqn_one _ ⟨_, _, _, rfl⟩
              have HLu : Hid (u.length ≤ 8) := Lib.hid (by omega)
              have zwo : wo.heap.size ≤ (wr.alloc (.cells #[.slice Ab nb cb, .int .i64 (r7 : Int)] 34)).heap.size := by simp; omega
              have Da := D10.alloc (.cells #[.slice Ab nb cb, .int .i64 (r7 : Int)] 34)
              have HCa := Lib.hid ((HC6.out.trans HC10.out).alloc (.cells #[.slice Ab nb cb, .int .i64 (r7 : Int)] 34))
              clear HI10 HC10 D10 HT10
              go_wp2_with (at_builtin; refine wpList_app1at epc 2 epc_len _ rfl _ _ _ rfl B3 34 i1 (.agg #[.slice none 0 0, .int .i64 0]) 32 Tryd.underlying24 ji jz0 jz1 jz2 rfl (by decide) _ pl rfl HT2.out.row _ 1 (⟨intsN u, (r7 : Int)⟩, .slice Ab nb cb) rfl ?_ hone hp1 (by decide) hbase ?_; (· exact epc_news (by simp [go_sem]) (by simp [go_sem])); intro v' w13 how13 hg13 hbl13; have hT13 := EqT.snoc HT2.out zwo (e := ⟨intsN u, (r7 : Int)⟩) (bv := .slice Ab nb cb) HBV.out HBN.out how13 hg13 hbl13; have HT13 := Lib.hid hT13; have hrow : ∀ k, (Value.slice Ao pl.length co).ownBlock = some k → B3 ≤ k := (fun k hk => (HT2.out.row.lt k hk).1); have D13 := DrAt.grown Da hg13 (fun k hk => by have := hrow k hk; omega); have HC13 := Lib.hid (Chg.grown HCa.out hg13 (fun k hk => by have := hrow k hk; omega)); have z13 := hg13.size; have z13' : wo.heap.size ≤ w13.heap.size := Nat.le_trans zwo z13; clear how13 hg13 hbl13 hT13 z13)
              go_roundw
              case rel => exact ⟨k - 1, a10, _, by go_num, by omega, by simp; omega, by omega, D13, by omega, HC13, HT13, Lib.hid (fun p hp => by
                rcases List.mem_append.1 hp with hp | hp
                · exact HL6.out p hp
                · obtain rfl : p = (⟨intsN u, (r7 : Int)⟩, .slice Ab nb cb) := by simpa using hp
                  show (intsN u).length ≤ 8
                  rw [intsN_len]; exact HLu.out)⟩
              case measure => simp [intOf]; omega
          · obtain rfl : m = 0 := by omega
            have HT10 := Lib.hid (EqT.chg HT6.out HC10.out (.inr (by omega)))
            have hbase : B3 ≤ (wr.alloc (.cells #[.slice Ab nb cb, .int .i64 (r7 : Int)] 34)).heap.size := by simp; omega
            have HT2 := Lib.hid (HT10.out.below (Below.alloc (Below.refl wr.heap.size wr) (Nat.le_refl _) (.cells #[.slice Ab nb cb, .int .i64 (r7 : Int)] 34)))
            have HBV := Lib.hid (OwnL.base (OwnL.alloc HI10.out (.cells #[.slice Ab nb cb, .int .i64 (r7 : Int)] 34)) (show B3 ≤ wo.heap.size by omega))
            have HBN := Lib.hid (fun b (hb : (Value.slice Ab nb cb).ownBlock = some b) => (World.ownsRow.lt HI10.out b hb).1)
            have hp1 : pl.length + 1 ≤ 16777216 := by omega
            have hone : ∀ u' ∈ epc ((⟨intsN u, (r7 : Int)⟩, .slice Ab nb cb) : Eqn × Value), u'.oneCell' = true := eqn_one _ ⟨_, _, _, rfl⟩
            have HLu : Hid (u.length ≤ 8) := Lib.hid (by omega)
            have zwo : wo.heap.size ≤ (wr.alloc (.cells #[.slice Ab nb cb, .int .i64 (r7 : Int)] 34)).heap.size := by simp; omega
            have Da := D10.alloc (.cells #[.slice Ab nb cb, .int .i64 (r7 : Int)] 34)
            have HCa := Lib.hid ((HC6.out.trans HC10.out).alloc (.cells #[.slice Ab nb cb, .int .i64 (r7 : Int)] 34))
            clear HI10 HC10 D10 HT10
            go_wp2_with (at_builtin; refine wpList_app1at epc 2 epc_len _ rfl _ _ _ rfl B3 34 i1 (.agg #[.slice none 0 0, .int .i64 0]) 32 Tryd.underlying24 ji jz0 jz1 jz2 rfl (by decide) _ pl rfl HT2.out.row _ 1 (⟨intsN u, (r7 : Int)⟩, .slice Ab nb cb) rfl ?_ hone hp1 (by decide) hbase ?_; (· exact epc_news (by simp [go_sem]) (by simp [go_sem])); intro v' w13 how13 hg13 hbl13; have hT13 := EqT.snoc HT2.out zwo (e := ⟨intsN u, (r7 : Int)⟩) (bv := .slice Ab nb cb) HBV.out HBN.out how13 hg13 hbl13; have HT13 := Lib.hid hT13; have hrow : ∀ k, (Value.slice Ao pl.length co).ownBlock = some k → B3 ≤ k := (fun k hk => (HT2.out.row.lt k hk).1); have D13 := DrAt.grown Da hg13 (fun k hk => by have := hrow k hk; omega); have HC13 := Lib.hid (Chg.grown HCa.out hg13 (fun k hk => by have := hrow k hk; omega)); have z13 := hg13.size; have z13' : wo.heap.size ≤ w13.heap.size := Nat.le_trans zwo z13; clear how13 hg13 hbl13 hT13 z13)
            go_roundw
            case rel => exact ⟨k - 1, a10, _, by go_num, by omega, by simp; omega, by omega, D13, by omega, HC13, HT13, Lib.hid (fun p hp => by
              rcases List.mem_append.1 hp with hp | hp
              · exact HL6.out p hp
              · obtain rfl : p = (⟨intsN u, (r7 : Int)⟩, .slice Ab nb cb) := by simpa using hp
                show (intsN u).length ≤ 8
                rw [intsN_len]; exact HLu.out)⟩
            case measure => simp [intOf]; omega
      · obtain rfl : k = 0 := by omega
        go_wp2_with (fail)
        refine (one_s g A n c a6 24 _ D6 hn (by omega) (by omega)).mono ?_; rintro e w14 ⟨b14, rfl, a14, h141, h142, D14, C14, S14⟩
        have HT14 := Lib.hid (EqT.chg HT6.out C14 (.inr (by omega)))
        have HC14 := Lib.hid (HC6.out.trans C14)
        have z14 : B3 + 1 ≤ w14.heap.size := by omega
        rw [← S14] at HT14
        clear D6 HC6 HT6 C14 S14 z6
        cases b14
        · have HT15 := HT14.out
          go_wp2
          exact bodyPost_ret (v := .tuple #[.slice Ao pl.length co, .int .i64 N]) (by simp [results, Tryd.results19, go_sem]) rfl ⟨_, _, N, rfl, ⟨pl, rfl, ⟨OwnL.base HT15.row hBw, HT15.lt, fun j p hj => ⟨OwnL.base (HT15.parts j p hj).1 hBw, (HT15.parts j p hj).2⟩, HT15.split⟩⟩, by rw [List.length_map]; omega, fun e he => by
            obtain ⟨p, hp, rfl⟩ := List.mem_map.1 he
            exact HL6.out p hp, hN1, HC14.out⟩
        · have D15 := D14.alloc (.cells #[.int .i64 (-1), .int .i64 0, .int .i64 64] 2)
          have HC15 := Lib.hid (HC14.out.alloc (.cells #[.int .i64 (-1), .int .i64 0, .int .i64 64] 2))
          have hT15 := HT14.out.below (Below.alloc (Below.refl w14.heap.size w14) (Nat.le_refl _) (.cells #[.int .i64 (-1), .int .i64 0, .int .i64 64] 2))
          have HT15 := Lib.hid hT15
          have hg14 : g < w14.heap.size := D14.lt
          clear D14 HC14 hT15
          go_wp2_with (fail)
          refine (among_s g A n c a14 w14.heap.size 3 [-1, 0, 64] _ D15 hn (by omega) (by simp) (by simp) hg14 (by simp) ?_).mono ?_
          · intro j x hj
            match j, hj with
            | 0, hj => simp at hj; subst hj; simp
            | 1, hj => simp at hj; subst hj; simp
            | 2, hj => simp at hj; subst hj; simp
            | j + 3, hj => simp at hj
          rintro e w16 ⟨x16, hx16, rfl, a16, h161, h162, D16, C16, S16⟩
          have HC16 := Lib.hid (HC15.out.trans C16)
          have HT16 := Lib.hid (EqT.chg HT15.out C16 (.inr (by omega)))
          have z16 : w14.heap.size + 1 ≤ w16.heap.size := by rw [S16]; simp
          clear D15 HC15 HT15 C16 S16 hx16
          have D17 := D16.alloc (.cells #[.int .i64 x16] 2)
          have HC17 := Lib.hid (HC16.out.alloc (.cells #[.int .i64 x16] 2))
          have HT17 := Lib.hid (HT16.out.below (Below.alloc (Below.refl w16.heap.size w16) (Nat.le_refl _) (.cells #[.int .i64 x16] 2)))
          have HI17 := Lib.hid (Int64L.built1 w16 w16.heap.size x16 (Nat.le_refl _))
          clear D16 HC16 HT16
          go_wp2_with (fail)
          refine (pick_s g A n c a16 3 _ D17 hn (by omega) (by omega)).mono ?_; rintro e w18 ⟨r18, hr18, rfl, a18, h181, h182, D18, C18, S18⟩
          have HC18 := Lib.hid (HC17.out.trans C18)
          have HT18 := Lib.hid (EqT.chg HT17.out C18 (.inr (by omega)))
          have HI18 := Lib.hid (OwnL.chgIn HI17.out C18 (by omega))
          have z18 : w16.heap.size + 1 ≤ w18.heap.size := by rw [S18]; simp
          generalize hb16 : w16.heap.size = b16 at *
          clear D17 HC17 HT17 HI17 C18 S18 hr18 hb16
          have hbase : B3 ≤ (w18.alloc (.cells #[.slice (some ⟨b16, 0, none⟩) 1 1, .int .i64 (r18 : Int)] 34)).heap.size := by simp; omega
          have HT2 := Lib.hid (HT18.out.below (Below.alloc (Below.refl w18.heap.size w18) (Nat.le_refl _) (.cells #[.slice (some ⟨b16, 0, none⟩) 1 1, .int .i64 (r18 : Int)] 34)))
          have HBV := Lib.hid (OwnL.base (OwnL.alloc HI18.out (.cells #[.slice (some ⟨b16, 0, none⟩) 1 1, .int .i64 (r18 : Int)] 34)) (show B3 ≤ b16 by omega))
          have HBN : Hid (∀ b, (Value.slice (some ⟨b16, 0, none⟩) 1 1).ownBlock = some b → w14.heap.size ≤ b) := Lib.hid (fun b hb => by simp [Value.ownBlock] at hb; omega)
          have hp1 : pl.length + 1 ≤ 16777216 := by omega
          have hone : ∀ u' ∈ epc ((⟨[x16], (r18 : Int)⟩, .slice (some ⟨b16, 0, none⟩) 1 1) : Eqn × Value), u'.oneCell' = true := eqn_one _ ⟨_, _, _, rfl⟩
          have zwo : w14.heap.size ≤ (w18.alloc (.cells #[.slice (some ⟨b16, 0, none⟩) 1 1, .int .i64 (r18 : Int)] 34)).heap.size := by simp; omega
          have HCa := Lib.hid (HC18.out.alloc (.cells #[.slice (some ⟨b16, 0, none⟩) 1 1, .int .i64 (r18 : Int)] 34))
          clear HI18 HC18 HT18 HT14 D18
          go_wp2_with (at_builtin; refine wpList_app1at epc 2 epc_len _ rfl _ _ _ rfl B3 34 i1 (.agg #[.slice none 0 0, .int .i64 0]) 32 Tryd.underlying24 ji jz0 jz1 jz2 rfl (by decide) _ pl rfl HT2.out.row _ 1 (⟨[x16], (r18 : Int)⟩, .slice (some ⟨b16, 0, none⟩) 1 1) rfl ?_ hone hp1 (by decide) hbase ?_; (· exact epc_news (by simp [go_sem]) (by simp [go_sem])); intro v' w13 how13 hg13 hbl13; have hT13 := EqT.snoc HT2.out zwo (e := ⟨[x16], (r18 : Int)⟩) (bv := .slice (some ⟨b16, 0, none⟩) 1 1) HBV.out HBN.out how13 hg13 hbl13; have HT13 := Lib.hid hT13; have hrow : ∀ k, (Value.slice Ao pl.length co).ownBlock = some k → B3 ≤ k := (fun k hk => (HT2.out.row.lt k hk).1); have HC13 := Lib.hid (Chg.grown HCa.out hg13 (fun k hk => by have := hrow k hk; omega)); obtain ⟨A13, c13, hv13, _⟩ := OwnL.shape how13; clear how13 hg13 hbl13 hT13)
          subst hv13
          have HT15 := HT13.out
          exact bodyPost_ret (v := .tuple #[.slice A13 (pl ++ [((⟨[x16], (r18 : Int)⟩, .slice (some ⟨b16, 0, none⟩) 1 1) : Eqn × Value)]).length c13, .int .i64 N]) (by simp [results, Tryd.results19, go_sem]) rfl ⟨_, _, N, rfl, ⟨_, rfl, ⟨OwnL.base HT15.row hBw, HT15.lt, fun j p hj => ⟨OwnL.base (HT15.parts j p hj).1 hBw, (HT15.parts j p hj).2⟩, HT15.split⟩⟩, by simp; omega, fun e he => by
            obtain ⟨p, hp, rfl⟩ := List.mem_map.1 he
            rcases List.mem_append.1 hp with hp | hp
            · exact HL6.out p hp
            · obtain rfl : p = (⟨[x16], (r18 : Int)⟩, .slice (some ⟨b16, 0, none⟩) 1 1) := by simpa using hp
              show 1 ≤ 8; omega, hN1, HC13.out⟩
end Go.Proofs.YthchdbjgjnpooaaDoor
