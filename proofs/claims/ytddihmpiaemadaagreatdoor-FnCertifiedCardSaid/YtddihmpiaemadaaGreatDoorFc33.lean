/- Evidence drawn: the walk of l26Draw. -/
import Derived.Test.YtddihmpiaemadaaGreatDoorFc32
import Derived.Deep.CutRange
import Derived.Deep.CutBlock
namespace Go.Proofs.YtddihmpiaemadaaGreatDoor
set_option linter.unusedVariables false
set_option linter.unusedSimpArgs false
open Go.RowKit
/-- what stays behind the drawing of the disc: the result's box, the disc's box and its sectors -/
structure DcW (g b bd be gs N c : Nat) (w wx : World) (D : List Value) (S : List Sec) : Prop where
  ch : Chg g (g + 1) w wx
  rb : Row wx b [.slice none 0 0, .slice none 0 0, .slice none 0 0, .slice none 0 0]
  fb : ∀ o, wx.frozen? ⟨b, o, none⟩ = false
  rd : Row wx bd D
  sec : SecOwn w.heap.size wx (.slice (some ⟨gs, 0, none⟩) N c) S
  og : g < w.heap.size
  ob : w.heap.size ≤ b
  obe : b < be
  od : g < bd
  ode : bd < be
  os : w.heap.size ≤ gs
  ose : gs < be
  lbe : be < wx.heap.size
section
variable {g b bd be gs N c : Nat} {w wx w' : World} {D : List Value} {S : List Sec}
theorem DcW.chx (h : DcW g b bd be gs N c w wx D S) (c' : ChX g be wx w') : DcW g b bd be gs N c w w' D S := by
  obtain ⟨ch, rb, fb, rd, sec, og, ob, obe, od, ode, os, ose, lbe⟩ := h
  exact ⟨ChX.toChg ch (by omega) c', rb.chx c' (by omega) (by omega) (by omega), frozen_chx fb c' (by omega) (by omega) (by omega), rd.chx c' (by omega) (by omega) (by omega), sec.chx c' (fun q hq => by have e1 : some gs = some q := hq; injection e1 with e1; omega), og, ob, obe, od, ode, os, ose, Nat.lt_of_lt_of_le lbe c'.size⟩
end
set_option maxRecDepth 20000 in
set_option maxHeartbeats 8000000 in
theorem draw26 (g : Nat) (A : Option Addr) (n c a : Nat) (w : World) (h : DrAt w g A n c a) (hn : n ≤ 1048576) (ha : a ≤ 268435456) :
    Calls Tryz.prog 35 #[.pointer (some ⟨g, 0, none⟩)] w fun e w' => ∃ (va vb vc vd : Value) (pl : List (Dsc × Value)) (cr : List Int) (ps qs : List ByteArray) (a' : Nat), e = .returned (evV va vb vc vd) ∧ EvX w.heap.size w' va vb vc vd pl cr ps qs ∧ EvN pl cr ps qs ∧ pl.length ≤ 4 ∧ a' ≤ a + 16384 ∧ DrAt w' g A n c a' ∧ Chg g (g + 1) w w' := by
  obtain ⟨i0, hi, hz0, hz1, hz2⟩ := info_parts icell_info
  obtain ⟨s0, si, sz0, sz1, sz2⟩ := info_parts scell_info
  obtain ⟨p0, di, dz0, dz1, dz2⟩ := info_parts dpc_info
  have hg := h.lt
  have D0 := h.alloc (.cells #[.slice none 0 0, .slice none 0 0, .slice none 0 0, .slice none 0 0] 28)
  have C0 : Chg g (g + 1) w (w.alloc (.cells #[.slice none 0 0, .slice none 0 0, .slice none 0 0, .slice none 0 0] 28)) := (Chg.of_below (Below.refl _ _)).alloc _
  have R0 : Row (w.alloc (.cells #[.slice none 0 0, .slice none 0 0, .slice none 0 0, .slice none 0 0] 28)) w.heap.size [.slice none 0 0, .slice none 0 0, .slice none 0 0, .slice none 0 0] := Row.alloc w _ _
  have F0 : ∀ o, ((w.alloc (.cells #[.slice none 0 0, .slice none 0 0, .slice none 0 0, .slice none 0 0] 28))).frozen? ⟨w.heap.size, o, none⟩ = false := frozen_alloc w _ _
  have z0 : ((w.alloc (.cells #[.slice none 0 0, .slice none 0 0, .slice none 0 0, .slice none 0 0] 28))).heap.size = w.heap.size + 1 := by simp
  go_enter Tryz.func35, Tryz.ntmps35
  go_wp2_with (fail)
  generalize (w.alloc (.cells #[.slice none 0 0, .slice none 0 0, .slice none 0 0, .slice none 0 0] 28)) = w0 at *
  refine (small_s g A n c a _ D0 hn (by omega)).mono ?_; rintro e w5 ⟨d, x5, a5, rfl, ho5, hok, ha5, D5', C5⟩
  obtain ⟨⟨dc, dh, P, ds, g1, g2, g3, g4, g5, g6, g7, g8, g9, g10, g11, g12⟩, hdat⟩ := hok
  obtain ⟨X5, c5, rfl, hX5⟩ := OwnL.shape ho5
  obtain ⟨N, hN⟩ : ∃ N, d.secs.length = N := ⟨_, rfl⟩
  obtain ⟨T, hTT⟩ : ∃ T, dc * dh = T := ⟨_, rfl⟩
  have hT : dc * dh ≤ 6 := Nat.mul_le_mul g6 g8
  have hT1 : 1 ≤ dc * dh := Nat.mul_le_mul g5 g7
  have hTi : d.cyl * d.heads = (T : Int) := by rw [g1, g2, ← hTT]; exact (Int.natCast_mul _ _).symm
  rw [hTT] at hT hT1 g12
  rw [hN] at g12
  have hN30 : N ≤ 30 := by rw [g12]; exact Nat.mul_le_mul hT g10
  have hN1 : 1 ≤ N := by rw [g12]; exact Nat.mul_le_mul hT1 g9
  obtain ⟨m, hmE⟩ : ∃ m, szN d.size = m := ⟨_, rfl⟩
  have hm : m ≤ 32 ∧ 1 ≤ m := by
    rw [← hmE, g4]
    have : ds = 0 ∨ ds = 1 ∨ ds = 2 := by omega
    rcases this with rfl | rfl | rfl <;> decide
  have hsz : 0 ≤ d.size ∧ d.size ≤ 2 := by rw [g4]; omega
  obtain ⟨gs, rfl, hg0, hg5⟩ := hX5.resolve_left (fun h0 => by rw [h0] at hN; simp at hN; omega)
  rw [hN] at ho5 ⊢
  rw [hmE] at hdat
  have zw5 := C5.size
  have hba : Below w5.heap.size w5 (w5.alloc (.cells #[.int .i64 d.cyl, .int .i64 d.heads, .int .i64 d.per, .int .i64 d.size, .slice (some ⟨gs, 0, none⟩) N c5] 32)) := Below.alloc (Below.refl _ _) (Nat.le_refl _) _
  have HS : Hid (d.secs.length = N ∧ ∀ s ∈ d.secs, s.data.size = m) := Lib.hid ⟨hN, hdat⟩
  have HC6 : Hid (Chg g (g + 1) w (w5.alloc (.cells #[.int .i64 d.cyl, .int .i64 d.heads, .int .i64 d.per, .int .i64 d.size, .slice (some ⟨gs, 0, none⟩) N c5] 32))) := Lib.hid ((C0.trans C5).belowK hba (by omega))
  have HB6 : Hid (Row (w5.alloc (.cells #[.int .i64 d.cyl, .int .i64 d.heads, .int .i64 d.per, .int .i64 d.size, .slice (some ⟨gs, 0, none⟩) N c5] 32)) w.heap.size [.slice none 0 0, .slice none 0 0, .slice none 0 0, .slice none 0 0]) := Lib.hid ((R0.chgIn C5 (by omega) (.inr (by omega))).below hba (by omega))
  have HF6 : Hid (∀ o, ((w5.alloc (.cells #[.int .i64 d.cyl, .int .i64 d.heads, .int .i64 d.per, .int .i64 d.size, .slice (some ⟨gs, 0, none⟩) N c5] 32))).frozen? ⟨w.heap.size, o, none⟩ = false) := Lib.hid (frozen_below (frozen_chg F0 C5 (by omega) (.inr (by omega))) hba (by omega))
  have HD6 : Hid (Row (w5.alloc (.cells #[.int .i64 d.cyl, .int .i64 d.heads, .int .i64 d.per, .int .i64 d.size, .slice (some ⟨gs, 0, none⟩) N c5] 32)) w5.heap.size [.int .i64 d.cyl, .int .i64 d.heads, .int .i64 d.per, .int .i64 d.size, .slice (some ⟨gs, 0, none⟩) N c5]) := Lib.hid (Row.alloc w5 #[.int .i64 d.cyl, .int .i64 d.heads, .int .i64 d.per, .int .i64 d.size, .slice (some ⟨gs, 0, none⟩) N c5] 32)
  have HO6 : Hid (SecOwn w.heap.size (w5.alloc (.cells #[.int .i64 d.cyl, .int .i64 d.heads, .int .i64 d.per, .int .i64 d.size, .slice (some ⟨gs, 0, none⟩) N c5] 32)) (.slice (some ⟨gs, 0, none⟩) N c5) d.secs) := Lib.hid (OwnL.below (OwnL.base ho5 (by omega)) hba)
  have D6 := D5'.belowK hba D5'.lt
  have hP : 1 ≤ P ∧ P ≤ 5 := ⟨g9, g10⟩
  have HNT : Hid (N = T * P) := Lib.hid g12
  have HPI : Hid (d.per = (P : Int)) := Lib.hid g3
  have HTI := Lib.hid hTi
  have z6 : ((w5.alloc (.cells #[.int .i64 d.cyl, .int .i64 d.heads, .int .i64 d.per, .int .i64 d.size, .slice (some ⟨gs, 0, none⟩) N c5] 32))).heap.size = w5.heap.size + 1 := by simp
  generalize hS0 : d.secs = S0 at HS HO6
  clear hTi hS0 hN hdat D0 C0 R0 F0 h ho5 C5 hba hX5 D5' hTT g1 g2 g3 g4 g5 g6 g7 g8 g9 g10 g11 g12
  go_wp2_with (fail)
  generalize (w5.alloc (.cells #[.int .i64 d.cyl, .int .i64 d.heads, .int .i64 d.per, .int .i64 d.size, .slice (some ⟨gs, 0, none⟩) N c5] 32)) = w6 at *
  obtain ⟨bd, hbd⟩ : ∃ bd, w5.heap.size = bd := ⟨_, rfl⟩
  rw [hbd] at HD6 z6 ⊢
  have hgsb : w.heap.size < gs ∧ gs < bd := by omega
  clear hbd hg5
  have HBY := Lib.hid (fun (w' : World) => bytes_s d.size w' hsz)
  rw [hmE] at HBY
  have hggs : g < gs := by omega
  have HKS : Hid (∀ w', ChX g gs w6 w' → w'.cell? ⟨bd, 4, none⟩ = some (.slice (some ⟨gs, 0, none⟩) N c5) ∧ w'.cell? ⟨bd, 3, none⟩ = some (.int .i64 d.size)) := Lib.hid fun w' h => ⟨(HD6.out.chx h (by omega) (by omega) (by omega)) 4 _ rfl, (HD6.out.chx h (by omega) (by omega) (by omega)) 3 _ rfl⟩
  go_loopw [4] (fun ii wx => ∃ (k a' : Nat) (S : List Sec), k ≤ N ∧ ii = .int .i64 k ∧ a' ≤ a + 4096 + 100 * k ∧ DrAt wx g A n c a' ∧ Hid (S.length = N ∧ ∀ s ∈ S, s.data.size = m) ∧ Hid (ChX g gs w6 wx) ∧ Hid (SecOwn w.heap.size wx (.slice (some ⟨gs, 0, none⟩) N c5) S)) (fun ii _ => N - (intOf ii).toNat)
  case atStart => exact ⟨0, a5, S0, by omega, rfl, by omega, D6, HS, Lib.hid (ChX.refl _ _ _), HO6⟩
  case round =>
    clear HO6 D6 HS
    obtain ⟨k, a7, S, hk, rfl, ha7, D7, HS, HX, HO⟩ := hrel
    have x4 := (HKS.out _ HX.out).1
    by_cases hlt : k < N
    · have hki : (k : Int) < (N : Int) := by omega
      obtain ⟨t, ht⟩ : ∃ t, S[k]? = some t := ⟨S[k]'(by have := HS.out.1; omega), List.getElem?_eq_getElem (by have := HS.out.1; omega)⟩
      have HT := Lib.hid ht
      have HXd := Lib.hid (HX.out.below (Below.refl wr.heap.size wr).drew)
      have HOd := Lib.hid (OwnL.below HO.out (Below.refl wr.heap.size wr).drew)
      have Dd := D7.belowK (Below.refl wr.heap.size wr).drew D7.lt
      obtain ⟨k74, k73⟩ := HKS.out _ HXd.out
      clear ht HX HO D7
      go_wp2_with (fail)
      go_region_held3 (fun w' => w'.cell? ⟨bd, 4, none⟩ = some (.slice (some ⟨gs, 0, none⟩) N c5) ∧ w'.cell? ⟨bd, 3, none⟩ = some (.int .i64 d.size))
        (first | with_reducible exact HKS.out _ HXd.out | with_reducible exact HKS.out _ HX9.out | with_reducible exact HKS.out _ HX10.out)
        (first
          | (go_at_call 57; refine (HBY.out _).mono ?_; rintro r w8 ⟨rfl, rfl⟩)
          | (go_at_call 74; refine (dat_s g A n c a7 m _ Dd hn (by omega) (by omega) (by omega)).mono ?_; rintro e w9 ⟨dd, a9, rfl, hdz, ha9, D9, C9⟩; have HX9 := Lib.hid (HXd.out.chg C9); have HO9 := Lib.hid (OwnL.chgX HOd.out C9 (by omega)); obtain ⟨q0, q1, fz⟩ := secs_at HO9.out HS.out.1 HT.out; have k94 := (HKS.out _ HX9.out).1; have HX10 := Lib.hid ((HX9.out.setB (k * 2) (.string dd)).setB (k * 2 + 1) (.int .i64 1))))
      have D10 := (D9.setNew (b := gs) (o := k * 2) hggs (.string dd)).setNew (b := gs) (o := k * 2 + 1) hggs (.int .i64 1)
      have HO10 := Lib.hid (secs_set HO9.out HS.out.1 hlt ⟨dd, 1⟩)
      have HS10 : Hid ((S.set k ⟨dd, 1⟩).length = N ∧ ∀ s ∈ S.set k ⟨dd, 1⟩, s.data.size = m) := Lib.hid ⟨by rw [List.length_set]; exact HS.out.1, fun u hu => by
        rcases List.mem_or_eq_of_mem_set hu with hu | rfl
        · exact HS.out.2 u hu
        · exact hdz⟩
      clear q0 q1 fz k73 k74 k94 HXd HOd Dd D9 C9 HX9 HO9 HT HS x4
      go_wp2_with (fail)
      go_roundw
      case rel => exact ⟨k + 1, a9, _, by omega, by go_num, by omega, D10, HS10, HX10, HO10⟩
      case measure => simp [intOf]; omega
    · obtain rfl : N = k := by omega
      have hbE : Below wr.heap.size wr (wr.alloc (.cells #[.slice none 0 0, .slice none 0 0, .slice none 0 0, .slice none 0 0] 28)) := Below.alloc (Below.refl _ _) (Nat.le_refl _) _
      have DE := D7.belowK hbE D7.lt
      have zw6 := HX.out.size
      have HCE : Hid (DcW g w.heap.size bd wr.heap.size gs N c5 w (wr.alloc (.cells #[.slice none 0 0, .slice none 0 0, .slice none 0 0, .slice none 0 0] 28)) [.int .i64 d.cyl, .int .i64 d.heads, .int .i64 d.per, .int .i64 d.size, .slice (some ⟨gs, 0, none⟩) N c5] S) := Lib.hid ⟨(ChX.toChg HC6.out (by omega) HX.out).belowK hbE (by have := HC6.out.size; omega), (HB6.out.chx HX.out (by omega) (by omega) (by omega)).below hbE (by omega), frozen_below (frozen_chx HF6.out HX.out (by omega) (by omega) (by omega)) hbE (by omega), (HD6.out.chx HX.out (by omega) (by omega) (by omega)).below hbE (by omega), OwnL.below HO.out hbE, hg, Nat.le_refl _, by omega, by omega, by omega, by omega, by omega, by simp⟩
      have HEE : Hid (EbW g wr.heap.size (wr.alloc (.cells #[.slice none 0 0, .slice none 0 0, .slice none 0 0, .slice none 0 0] 28)) (wr.alloc (.cells #[.slice none 0 0, .slice none 0 0, .slice none 0 0, .slice none 0 0] 28)) [.slice none 0 0, .slice none 0 0, .slice none 0 0, .slice none 0 0]) := Lib.hid ⟨ChX.refl _ _ _, Row.alloc wr _ _, frozen_alloc wr _ _, by simp, by omega⟩
      clear HX HO D7 HKS HBY HC6 HB6 HF6 HD6 hbE hlt hk
      go_wp2_with (fail)
      generalize (wr.alloc (.cells #[.slice none 0 0, .slice none 0 0, .slice none 0 0, .slice none 0 0] 28)) = wE at *
      refine (pick_s g A n c a7 4 _ DE hn (by omega) (by omega)).mono ?_; rintro e w8 ⟨r, hr, rfl, a8, h81, h82, D8, C8, S8⟩
      have HX8 := Lib.hid (HEE.out.chg C8).base
      have HC8 := Lib.hid (HCE.out.chx ((ChX.refl _ _ _).chg C8))
      obtain ⟨be, hbe⟩ : ∃ be, wr.heap.size = be := ⟨_, rfl⟩
      rw [hbe] at HX8 HC8 ⊢
      obtain ⟨Q, hQ⟩ : ∃ Q : Nat, 1 + (r : Int) = Q := ⟨1 + r, by omega⟩
      have hQ4 : Q ≤ 4 := by omega
      have hbB : be < w8.heap.size := HX8.out.lb
      have hgbe : g < be := HX8.out.lg
      have HU0 : Hid (OutL w8.heap.size w8 (.slice none 0 0) []) := Lib.hid ⟨OwnL.of_nil, fun p hp => by cases hp⟩
      clear HEE HCE DE C8 S8 hr hbe x4
      go_wp2_with (fail)
      go_loopw [6] (fun ii wx => ∃ (q a' : Nat) (pl : List (Dsc × Value)) (dv : Value), q ≤ 4 ∧ ii = .int .i64 q ∧ a' + 960 * q ≤ a8 + 3840 ∧ pl.length + q ≤ 4 ∧ DrAt wx g A n c a' ∧ Hid (EbW g be w8 wx [dv, (.slice none 0 0), (.slice none 0 0), (.slice none 0 0)]) ∧ Hid (OutL w8.heap.size wx dv pl) ∧ Hid (∀ p ∈ pl, p.1.secs.length = N ∧ ∀ s ∈ p.1.secs, s.data.size = m)) (fun ii _ => (intOf ii).toNat)
      case atStart => exact ⟨Q, a8, [], (.slice none 0 0), hQ4, by first | rfl | rw [hQ], by omega, by simp; omega, D8, HX8, HU0, Lib.hid (by simp)⟩
      case round =>
        clear HX8 D8 HU0 hQ
        obtain ⟨q, a9, pl, dv, hq4, rfl, ha9, hpl, D9, HX, HU, HPL⟩ := hrel
        by_cases hq0 : q = 0
        rotate_left
        · have hd1 : decide ((q : Int) > 0) = true := decide_eq_true (by omega)
          have hd2 : decide (0 < (q : Int)) = true := decide_eq_true (by omega)
          have HCx := HC8.out.chx HX.out.ch
          have x0 := HX.out.row 0 _ rfl
          have d0 := HCx.rd 0 _ rfl
          have d1 := HCx.rd 1 _ rfl
          have d2 := HCx.rd 2 _ rfl
          have d3 := HCx.rd 3 _ rfl
          have d4 := HCx.rd 4 _ rfl
          have zr : w8.heap.size ≤ wr.heap.size := HX.out.ch.size
          have zd : wr.drew.heap.size = wr.heap.size := rfl
          have HXd := Lib.hid (HX.out.below (Below.refl wr.heap.size wr).drew)
          have HUd := Lib.hid (HU.out.below (Below.refl wr.heap.size wr).drew)
          have HDM := Lib.hid (dmg_s g A n c a9 w.heap.size N m ⟨d.cyl, d.heads, d.per, d.size, S⟩ (.slice (some ⟨gs, 0, none⟩) N c5) wr.drew (D9.belowK (Below.refl wr.heap.size wr).drew D9.lt) hn (by omega) (OwnL.below HCx.sec (Below.refl wr.heap.size wr).drew) HS.out.1 hN1 (by omega) hmE ⟨hm.2, by omega⟩ hsz HS.out.2)
          have hl1 : pl.length + 1 ≤ 16777216 := by omega
          clear HCx D9 HX HU
          go_wp2_with (fail)
          go_region_law (first
            | (refine step_appP dpc 5 dpc_len _ (by rfl) _ _ _ (by rfl) w8.heap.size 32 p0 (.agg #[.int .i64 0, .int .i64 0, .int .i64 0, .int .i64 0, .slice none 0 0]) 56 Tryz.underlying24 di dz0 dz1 dz2 rfl (by decide) dv pl (by rfl) HU7.out.o _ 1 (⟨d.cyl, d.heads, d.per, d.size, S7⟩, .slice A7 n7 k7) (by rfl) RA7.out (dpc_oneX HO7.out) hl1 (by decide) hbase ?_; intro g6 c6 w12 how6 hg6 hat6; have hat7 : (Value.slice (some ⟨g6, 0, none⟩) (pl.length + 1) c6).ownBlock = dv.ownBlock ∨ (Value.slice (some ⟨g6, 0, none⟩) (pl.length + 1) c6).ownBlock = some ((w7.alloc (.cells #[.int .i64 d.cyl, .int .i64 d.heads, .int .i64 d.per, .int .i64 d.size, .slice A7 n7 k7] 32))).heap.size := (hat6.elim (fun h1 => .inl h1.symm) (fun h1 => .inr (congrArg some h1))); have HU12 := Lib.hid (OutL.snoc (d := ⟨d.cyl, d.heads, d.per, d.size, S7⟩) HU7.out how6 hg6 hat7 HO7.out HJ7.out); have HX12 := Lib.hid (HX7.out.grown hg6 (fun k hk => (World.ownsRow.lt HU7.out.o k hk).1)); have D12 := D11.grown hg6 (fun k hk => by have := (World.ownsRow.lt HU7.out.o k hk).1; omega); have x12 := HX12.out.row 0 _ rfl; have f12 := HX12.out.fr 0; clear how6 hg6 hat6 hat7)
            | (go_simp; go_at_call 75; refine HDM.out.mono ?_; rintro e w7 ⟨S7, x7, a10, rfl, ho7, hS7, hdd7, ha10, D10, C7⟩; obtain ⟨A7, n7, k7, rfl⟩ := own_slice ho7; dsimp only; have X7 := HXd.out.chg C7; have ba : Below w7.heap.size w7 (w7.alloc (.cells #[.int .i64 d.cyl, .int .i64 d.heads, .int .i64 d.per, .int .i64 d.size, .slice A7 n7 k7] 32)) := Below.alloc (Below.refl _ _) (Nat.le_refl _) _; have HX7 := Lib.hid (X7.below ba); have HU7 := Lib.hid ((HUd.out.chgX C7 (by omega)).below ba); have HO7 := Lib.hid (OwnL.below (OwnL.base ho7 (by omega : w8.heap.size ≤ wr.drew.heap.size)) ba); have HJ7 : Hid (Dj dv (.slice A7 n7 k7)) := Lib.hid (Dj.lt (own_hi HUd.out.o) (own_lo ho7)); have D11 := D10.belowK ba D10.lt; have RA7 := Lib.hid (Row.alloc w7 #[.int .i64 d.cyl, .int .i64 d.heads, .int .i64 d.per, .int .i64 d.size, .slice A7 n7 k7] 32); have hbase : w8.heap.size ≤ ((w7.alloc (.cells #[.int .i64 d.cyl, .int .i64 d.heads, .int .i64 d.per, .int .i64 d.size, .slice A7 n7 k7] 32))).heap.size := (by have h1 := HX7.out.ch.size; omega); have x7 := X7.row 0 _ rfl; have x7a : ((w7.alloc (.cells #[.int .i64 d.cyl, .int .i64 d.heads, .int .i64 d.per, .int .i64 d.size, .slice A7 n7 k7] 32))).cell? ⟨be, 0, none⟩ = some dv := HX7.out.row 0 _ rfl; have HS7 : Hid (S7.length = N ∧ ∀ s ∈ S7, s.data.size = m) := Lib.hid ⟨hS7, hdd7⟩; clear X7 ba ho7 hS7 hdd7 D10 C7))
          all_goals clear x0 d0 d1 d2 d3 d4 x7 x7a HX7 HU7 HO7 HJ7 D11 RA7 HDM HXd HUd
          all_goals go_wp2_with (fail)
          all_goals go_roundw
          all_goals first
            | exact ⟨q - 1, a10, pl ++ [(⟨d.cyl, d.heads, d.per, d.size, S7⟩, .slice A7 n7 k7)], _, by omega, by first | (congr 1; omega) | go_num, by omega, by simp; omega, D12.setNew hgbe _, Lib.hid (HX12.out.set (o := 0) _ (by simp)), Lib.hid (HU12.out.far hbB), Lib.hid (fun p hp => by
                rcases List.mem_append.1 hp with hp | hp
                · exact HPL.out p hp
                · obtain rfl : p = (⟨d.cyl, d.heads, d.per, d.size, S7⟩, .slice A7 n7 k7) := by simpa using hp
                  exact HS7.out)⟩
            | (simp [intOf]; omega)
        · subst hq0
          go_wp2_with (fail)
          refine (one_s g A n c a9 2 _ D9 hn (by omega) (by omega)).mono ?_; rintro e w9 ⟨kn, rfl, a10, h101, h102, D10, C10, S10⟩
          have HX9 := Lib.hid (HX.out.chg C10).base
          have HC9 := Lib.hid (HC8.out.chx (HX.out.chg C10).ch)
          have HU9 := Lib.hid (HU.out.chgX C10 (by omega))
          have zb9 : w8.heap.size ≤ w9.heap.size := (HX.out.chg C10).ch.size
          have a10b : a10 ≤ a + 4096 + 100 * N + 2 + 3840 + 2 := by omega
          clear HX HU HC8 D9 C10 S10 h101 h102 h81 h82 ha9 ha7
          go_wp2_with (fail)
          go_loopw [8] (fun ii wx => ∃ (k a' : Nat) (cr : List Int) (cv : Value), k ≤ N ∧ ii = .int .i64 k ∧ a' ≤ a10 + 4 * k ∧ DrAt wx g A n c a' ∧ cr.length = k ∧ Hid (EbW g be w9 wx [dv, cv, (.slice none 0 0), (.slice none 0 0)]) ∧ Hid (Int64L w9.heap.size wx cv cr)) (fun ii _ => N - (intOf ii).toNat)
          case atStart => exact ⟨0, a10, [], (.slice none 0 0), by omega, rfl, by omega, D10, rfl, HX9, Lib.hid OwnL.of_nil⟩
          case round =>
            clear HX9 D10
            obtain ⟨k, a11, cr, cv, hk, rfl, ha11, D11, hcr, HX, HI⟩ := hrel
            have HCx := Lib.hid (HC9.out.chx HX.out.ch)
            have x4 := HCx.out.rd 4 _ rfl
            by_cases hlt : k < N
            · have hki : (k : Int) < (N : Int) := by omega
              obtain ⟨t, ht⟩ : ∃ t, S[k]? = some t := ⟨S[k]'(by have := HS.out.1; omega), List.getElem?_eq_getElem (by have := HS.out.1; omega)⟩
              have HT := Lib.hid ht
              have htm : t.data.size ≤ 32 := by have := HS.out.2 t (List.mem_of_getElem? ht); omega
              clear ht
              go_upto_region 16 with (fail)
              go_cut [69] from 53 to 82 (fun s wx => ∃ (b : Bool) (a' : Nat), s = .bool b ∧ a' ≤ a11 + 4 ∧ DrAt wx g A n c a' ∧ Hid (EbW g be w9 wx [dv, cv, (.slice none 0 0), (.slice none 0 0)]) ∧ Hid (Int64L w9.heap.size wx cv cr))
              case first =>
                clear x4 HCx
                cases kn
                · go_wp2_with (fail)
                  refine (one_s g A n c a11 6 _ D11 hn (by omega) (by omega)).mono ?_; rintro e w12 ⟨b12, rfl, a12, h121, h122, D12, C12, S12⟩
                  have HX12 := Lib.hid (HX.out.chg C12)
                  have HI12 := Lib.hid (OwnL.chgX HI.out C12 (by omega))
                  go_wp2_with (fail)
                  go_meet
                  exact ⟨b12, a12, rfl, by omega, D12, HX12, HI12⟩
                · go_wp2_with (fail)
                  refine (one_s g A n c a11 6 _ D11 hn (by omega) (by omega)).mono ?_; rintro e w12 ⟨b12, rfl, a12, h121, h122, D12, C12, S12⟩
                  have HX12 := Lib.hid (HX.out.chg C12)
                  have HI12 := Lib.hid (OwnL.chgX HI.out C12 (by omega))
                  cases b12
                  · go_wp2_with (fail)
                    go_meet
                    exact ⟨true, a12, rfl, by omega, D12, HX12, HI12⟩
                  · go_wp2_with (fail)
                    refine (one_s g A n c a12 6 _ D12 hn (by omega) (by omega)).mono ?_; rintro e w13 ⟨b13, rfl, a13, h131, h132, D13, C13, S13⟩
                    have HX13 := Lib.hid (HX12.out.chg C13)
                    have HI13 := Lib.hid (OwnL.chgX HI12.out C13 (by omega))
                    go_wp2_with (fail)
                    go_meet
                    exact ⟨b13, a13, rfl, by omega, D13, HX13, HI13⟩
              case rest =>
                clear HX HI HCx x4 D11
                obtain ⟨bc, a12, rfl, ha12, D12, HX, HI⟩ := hcut
                have HCx := Lib.hid (HC9.out.chx HX.out.ch)
                have x4 := HCx.out.rd 4 _ rfl
                have x1 := HX.out.row 1 _ rfl
                obtain ⟨q0, q1, fz⟩ := secs_at HCx.out.sec HS.out.1 HT.out
                clear HCx
                cases bc
                · clear x4 q0 q1 fz
                  have ba : Below wc.heap.size wc (wc.alloc (.cells #[.int .i64 (-1)] 2)) := Below.alloc (Below.refl _ _) (Nat.le_refl _) _
                  have HXa := Lib.hid (HX.out.below ba)
                  have HLa := Lib.hid (OwnL.below HI.out ba)
                  have Da := D12.belowK ba D12.lt
                  have RA : Row (wc.alloc (.cells #[.int .i64 (-1)] 2)) wc.heap.size [.int .i64 (-1)] := Row.alloc wc _ _
                  have hbas : w9.heap.size ≤ ((wc.alloc (.cells #[.int .i64 (-1)] 2))).heap.size := by have h1 := HXa.out.ch.size; omega
                  go_wp2_with (at_builtin; refine stopQ ?_)
                  intro _
                  refine wpList_app1at icell 1 icell_len _ rfl _ _ _ rfl (w9.heap.size) 2 i0 (.int .i64 0) 8 Tryz.underlying25 hi hz0 hz1 hz2 rfl (by decide) cv cr rfl HLa.out _ 1 (-1) rfl RA (by simp [icell, Value.oneCell']) (by omega) (by omega) hbas ?_
                  intro v' w14 how hgr hat
                  obtain ⟨Av, nv, kv, rfl⟩ := own_slice how
                  have HX14 := Lib.hid (HXa.out.grown hgr (fun k hk => (World.ownsRow.lt HLa.out k hk).1))
                  have x14 := HX14.out.row 1 _ rfl
                  have f14 := HX14.out.fr 1
                  have HXN := Lib.hid (HX14.out.set (o := 1) (.slice Av nv kv) (by simp))
                  have HIN := Lib.hid (far_set (g := be) (o := 1) (u := .slice Av nv kv) how (by omega))
                  have DN := (Da.grown hgr (fun k hk => by have := (World.ownsRow.lt HLa.out k hk).1; omega)).setNew (b := be) (o := 1) hgbe (.slice Av nv kv)
                  clear x1 HX HI HXa HLa Da RA how hgr hat HX14 ba hbas D12
                  go_wp2_with (fail)
                  go_roundw
                  case rel => exact ⟨k + 1, a12, _, _, by omega, by go_num, by omega, DN, by simp; omega, HXN, HIN⟩
                  case measure => simp [intOf]; omega
                · go_wp2_with (fail)
                  refine (crcS_s t.data _ (by omega)).mono ?_; rintro e w13 ⟨rfl, rfl⟩
                  obtain ⟨xv, hxv⟩ : ∃ xv : Int, ((crcB t.data : Nat) : Int) = xv := ⟨_, rfl⟩
                  rw [hxv]
                  clear x4 q0 q1 fz hxv
                  have ba : Below wc.heap.size wc (wc.alloc (.cells #[.int .i64 xv] 2)) := Below.alloc (Below.refl _ _) (Nat.le_refl _) _
                  have HXa := Lib.hid (HX.out.below ba)
                  have HLa := Lib.hid (OwnL.below HI.out ba)
                  have Da := D12.belowK ba D12.lt
                  have RA : Row (wc.alloc (.cells #[.int .i64 xv] 2)) wc.heap.size [.int .i64 xv] := Row.alloc wc _ _
                  have hbas : w9.heap.size ≤ ((wc.alloc (.cells #[.int .i64 xv] 2))).heap.size := by have h1 := HXa.out.ch.size; omega
                  go_wp2_with (at_builtin; refine stopQ ?_)
                  intro _
                  refine wpList_app1at icell 1 icell_len _ rfl _ _ _ rfl (w9.heap.size) 2 i0 (.int .i64 0) 8 Tryz.underlying25 hi hz0 hz1 hz2 rfl (by decide) cv cr rfl HLa.out _ 1 xv rfl RA (by simp [icell, Value.oneCell']) (by omega) (by omega) hbas ?_
                  intro v' w14 how hgr hat
                  obtain ⟨Av, nv, kv, rfl⟩ := own_slice how
                  have HX14 := Lib.hid (HXa.out.grown hgr (fun k hk => (World.ownsRow.lt HLa.out k hk).1))
                  have x14 := HX14.out.row 1 _ rfl
                  have f14 := HX14.out.fr 1
                  have HXN := Lib.hid (HX14.out.set (o := 1) (.slice Av nv kv) (by simp))
                  have HIN := Lib.hid (far_set (g := be) (o := 1) (u := .slice Av nv kv) how (by omega))
                  have DN := (Da.grown hgr (fun k hk => by have := (World.ownsRow.lt HLa.out k hk).1; omega)).setNew (b := be) (o := 1) hgbe (.slice Av nv kv)
                  clear x1 HX HI HXa HLa Da RA how hgr hat HX14 ba hbas D12
                  go_wp2_with (fail)
                  go_roundw
                  case rel => exact ⟨k + 1, a12, _, _, by omega, by go_num, by omega, DN, by simp; omega, HXN, HIN⟩
                  case measure => simp [intOf]; omega
            · obtain rfl : N = k := by omega
              have HU10 := Lib.hid (HU9.out.chx HX.out.ch (by omega) (by omega))
              have HJab : Hid (Dj dv cv) := Lib.hid (Dj.lt (own_hi HU9.out.o) (own_lo HI.out))
              have HPb : Hid (∀ x ∈ pl, Dj x.2 cv) := Lib.hid (fun x hx => Dj.lt (own_hi (HU9.out.s x hx).1) (own_lo HI.out))
              have HX10 := Lib.hid HX.out.base
              have zb10 : w9.heap.size ≤ wr.heap.size := HX.out.ch.size
              have HC10 := HCx
              clear HX HU9 HC9 hlt hk
              go_wp2_with (fail)
              clear x4
              generalize hwo : wr = wo at *
              clear hwo
              go_loopw [10] (fun ii wx => ∃ (t a' : Nat) (ps qs : List ByteArray) (pv qv : Value), t ≤ T ∧ ii = .int .i64 t ∧ a' ≤ a11 + 4 * t ∧ DrAt wx g A n c a' ∧ ps.length = t ∧ qs.length = t ∧ Hid ((∀ s ∈ ps, s.size ≤ 64) ∧ ∀ s ∈ qs, s.size ≤ 64) ∧ Hid (EbW g be wo wx [dv, cv, pv, qv]) ∧ Hid (StringL wo.heap.size wx pv ps) ∧ Hid (StringL wo.heap.size wx qv qs) ∧ Hid (Dj pv qv)) (fun ii _ => T - (intOf ii).toNat)
              case atStart => exact ⟨0, a11, [], [], (.slice none 0 0), (.slice none 0 0), by omega, rfl, by omega, D11, rfl, rfl, Lib.hid ⟨by simp, by simp⟩, HX10, Lib.hid OwnL.of_nil, Lib.hid OwnL.of_nil, Lib.hid Dj.nil⟩
              case round =>
                clear HX10 D11
                obtain ⟨t, a12, ps, qs, pv, qv, ht, rfl, ha12, D12, hpsl, hqsl, HPQ, HX, HP, HQ, HJ⟩ := hrel
                have HCx := Lib.hid (HC10.out.chx HX.out.ch)
                by_cases htT : t < T
                · have hti : (t : Int) < (T : Int) := by omega
                  have hTi := HTI.out
                  have hw1 : IntKind.i64.wrap (T : Int) = (T : Int) := by rw [IntKind.wrap_i64]; omega
                  obtain ⟨o, ho⟩ : ∃ o, t * P = o := ⟨_, rfl⟩
                  have hoN : o + P ≤ N := by
                    have h1 := Nat.mul_le_mul_right P (show t + 1 ≤ T by omega)
                    rw [Nat.add_mul, Nat.one_mul, ho, ← HNT.out] at h1
                    exact h1
                  have hto : (t : Int) * (P : Int) = (o : Int) := by rw [← ho]; exact (Int.natCast_mul _ _).symm
                  have hw2 : IntKind.i64.wrap (o : Int) = (o : Int) := by rw [IntKind.wrap_i64]; omega
                  have d0 := HCx.out.rd 0 _ rfl
                  have d1 := HCx.out.rd 1 _ rfl
                  have ba : Below wr.heap.size wr (wr.alloc (.cells #[] 9)) := Below.alloc (Below.refl _ _) (Nat.le_refl _) _
                  have HB0 : Hid (StringL wr.heap.size (wr.alloc (.cells #[] 9)) (.slice (some ⟨wr.heap.size, 0, none⟩) 0 0) []) := Lib.hid (OwnL.of_empty wr (Nat.le_refl _))
                  clear ho
                  go_wp2_with (fail)
                  clear d0 d1
                  generalize hwq : wr = wq at *
                  clear hwq
                  go_loopw [11, 12] (fun v11 v12 wx => ∃ (j : Nat) (bl : List ByteArray), j ≤ P ∧ v12 = .int .i64 j ∧ bl.length = j ∧ Hid (∀ s ∈ bl, s.size = m) ∧ Below wq.heap.size wq wx ∧ Hid (StringL wq.heap.size wx v11 bl)) (fun _ v12 _ => P - (intOf v12).toNat)
                  case atStart => exact ⟨0, [], by omega, rfl, rfl, Lib.hid (by simp), ba, HB0⟩
                  case round =>
                    clear ba HB0
                    obtain ⟨j, bl, hj, rfl, hbl, HBL, hbb, HB⟩ := hrel
                    have HXb := Lib.hid (HX.out.below hbb)
                    have HCb := Lib.hid (HC10.out.chx HXb.out.ch)
                    have d2 := HCb.out.rd 2 _ rfl
                    have d4 := HCb.out.rd 4 _ rfl
                    rw [HPI.out] at d2
                    by_cases hjP : j < P
                    · have hji : (j : Int) < (P : Int) := by omega
                      obtain ⟨x, hx⟩ : ∃ x : Nat, (o : Int) + (j : Int) = (x : Int) := ⟨o + j, by omega⟩
                      have hxN : x < N := by omega
                      have hxi : (x : Int) < (N : Int) := by omega
                      have hw3 : IntKind.i64.wrap (x : Int) = (x : Int) := by rw [IntKind.wrap_i64]; omega
                      obtain ⟨u, hu⟩ : ∃ u, S[x]? = some u := ⟨S[x]'(by have := HS.out.1; omega), List.getElem?_eq_getElem (by have := HS.out.1; omega)⟩
                      have HUM := Lib.hid (HS.out.2 u (List.mem_of_getElem? hu))
                      obtain ⟨q0, q1, fz⟩ := secs_at HCb.out.sec HS.out.1 hu
                      have ba : Below wr.heap.size wr (wr.alloc (.cells #[.string u.data] 9)) := Below.alloc (Below.refl _ _) (Nat.le_refl _) _
                      have HBa := Lib.hid (OwnL.below HB.out ba)
                      have RA : Row (wr.alloc (.cells #[.string u.data] 9)) wr.heap.size [.string u.data] := Row.alloc wr _ _
                      have hbas : wq.heap.size ≤ (wr.alloc (.cells #[.string u.data] 9)).heap.size := by have h1 := hbb.size; have h2 := ba.size; omega
                      obtain ⟨A8, n8, c8, rfl⟩ := own_slice HB.out
                      clear hu HCb HXb
                      go_wp2_with (at_builtin; refine stopQ ?_)
                      intro _
                      refine wpList_app1at scell 1 scell_len _ rfl _ _ _ rfl (wq.heap.size) 9 s0 (.string .empty) 16 Tryz.underlying26 si sz0 sz1 sz2 rfl (by decide) (.slice A8 n8 c8) bl rfl HBa.out _ 1 u.data rfl RA (by simp [scell, Value.oneCell']) (by omega) (by omega) hbas ?_
                      intro v' w14 how hgr hat
                      have hb14 : Below wq.heap.size wq w14 := (hbb.trans (ba.mono hbb.size)).grown hgr hbas (fun k hk => (World.ownsRow.lt HBa.out k hk).1)
                      have HBN := Lib.hid how
                      clear how hgr hat q0 q1 fz d2 d4 RA HBa ba
                      go_wp2_with (fail)
                      go_roundw
                      case rel => exact ⟨j + 1, bl ++ [u.data], by omega, by go_num, by simp; omega, Lib.hid (fun s hs => by
                        rcases List.mem_append.1 hs with hs | hs
                        · exact HBL.out s hs
                        · obtain rfl : s = u.data := by simpa using hs
                          exact HUM.out), hb14, HBN⟩
                      case measure => simp [intOf]; omega
                    · obtain rfl : P = j := by omega
                      have HPb := Lib.hid (OwnL.below HP.out hbb)
                      have HQb := Lib.hid (OwnL.below HQ.out hbb)
                      have Db := D12.belowK hbb D12.lt
                      obtain ⟨pp, qq, cc, hmk, hpp, hqq⟩ := mk_small HBL.out (by omega : m ≤ 64)
                      have HMK := mk_s bl u11 wr (strL_own HB.out) (by omega)
                      rw [hmk] at HMK
                      have HMK := Lib.hid HMK
                      clear HCb HX HP HQ D12 HB HBL hmk hbl d4 HCx
                      go_wp2_with (fail)
                      refine HMK.out.mono ?_; rintro e w16 ⟨rfl, hb16⟩
                      have HX16 := Lib.hid (HXb.out.below hb16)
                      have HP16 := Lib.hid (OwnL.below HPb.out hb16)
                      have HQ16 := Lib.hid (OwnL.below HQb.out hb16)
                      have D16 := Db.belowK hb16 Db.lt
                      clear HMK HXb HPb HQb Db d2 hbb hb16
                      go_upto_region 28 with (fail)
                      go_cut [124] from 83 to 142 (fun s wx => ∃ (b : Bool) (a' : Nat), s = .bool b ∧ a' ≤ a12 + 2 ∧ DrAt wx g A n c a' ∧ Hid (EbW g be wo wx [dv, cv, pv, qv]) ∧ Hid (StringL wo.heap.size wx pv ps) ∧ Hid (StringL wo.heap.size wx qv qs))
                      case first =>
                        by_cases hcc : cc = 0
                        · subst hcc
                          go_wp2_with (fail)
                          refine (one_s g A n c a12 3 _ D16 hn (by omega) (by omega)).mono ?_; rintro e w17 ⟨b17, rfl, a17, h171, h172, D17, C17, S17⟩
                          have HX17 := Lib.hid (HX16.out.chg C17)
                          have HP17 := Lib.hid (OwnL.chgX HP16.out C17 (by omega))
                          have HQ17 := Lib.hid (OwnL.chgX HQ16.out C17 (by omega))
                          go_wp2_with (fail)
                          go_meet
                          exact ⟨b17, a17, rfl, by omega, D17, HX17, HP17, HQ17⟩
                        · have hcn : (cc != 0) = true := by rw [bne_iff_ne]; exact hcc
                          go_wp2_with (fail)
                          go_meet
                          exact ⟨true, a12, rfl, by omega, D16, HX16, HP16, HQ16⟩
                      case rest =>
                        clear D16 HX16 HP16 HQ16
                        obtain ⟨b124, a17, rfl, ha17, Da17, HXa17, HPa17, HQa17⟩ := hcut
                        go_upto_if 124 with (fail)
                        go_cut [13] from 83 to 142 (fun s wx => ∃ s1 : ByteArray, s = .string s1 ∧ s1.size ≤ 64 ∧ wx = wc)
                        case first =>
                          cases b124
                          · go_wp2_with (fail)
                            go_meet
                            exact ⟨_, rfl, by assumption, rfl⟩
                          · go_wp2_with (fail)
                            go_meet
                            exact ⟨_, rfl, by decide, rfl⟩
                        case rest =>
                          obtain ⟨p1, rfl, hp1, hwc⟩ := hcut
                          subst hwc
                          go_upto_region 30 with (fail)
                          go_cut [130] from 83 to 142 (fun s wx => ∃ (b : Bool) (a' : Nat), s = .bool b ∧ a' ≤ a17 + 2 ∧ DrAt wx g A n c a' ∧ Hid (EbW g be wo wx [dv, cv, pv, qv]) ∧ Hid (StringL wo.heap.size wx pv ps) ∧ Hid (StringL wo.heap.size wx qv qs))
                          case first =>
                            by_cases hcc : cc = 0
                            · subst hcc
                              go_wp2_with (fail)
                              refine (one_s g A n c a17 3 _ Da17 hn (by omega) (by omega)).mono ?_; rintro e w17 ⟨b17, rfl, a17, h171, h172, D17, C17, S17⟩
                              have HX17 := Lib.hid (HXa17.out.chg C17)
                              have HP17 := Lib.hid (OwnL.chgX HPa17.out C17 (by omega))
                              have HQ17 := Lib.hid (OwnL.chgX HQa17.out C17 (by omega))
                              go_wp2_with (fail)
                              go_meet
                              exact ⟨b17, a17, rfl, by omega, D17, HX17, HP17, HQ17⟩
                            · have hcn : (cc != 0) = true := by rw [bne_iff_ne]; exact hcc
                              go_wp2_with (fail)
                              go_meet
                              exact ⟨true, a17, rfl, by omega, Da17, HXa17, HPa17, HQa17⟩
                          case rest =>
                            clear Da17 HXa17 HPa17 HQa17
                            obtain ⟨b130, a18, rfl, ha18, Da18, HXa18, HPa18, HQa18⟩ := hcut
                            go_upto_if 130 with (fail)
                            go_cut [14] from 83 to 142 (fun s wx => ∃ s1 : ByteArray, s = .string s1 ∧ s1.size ≤ 64 ∧ wx = wc)
                            case first =>
                              cases b130
                              · go_wp2_with (fail)
                                go_meet
                                exact ⟨_, rfl, by assumption, rfl⟩
                              · go_wp2_with (fail)
                                go_meet
                                exact ⟨_, rfl, by decide, rfl⟩
                            case rest =>
                              obtain ⟨q1, rfl, hq1, hwc⟩ := hcut
                              subst hwc
                              have x2 := HXa18.out.row 2 _ rfl
                              have ba : Below wc.heap.size wc (wc.alloc (.cells #[.string p1] 9)) := Below.alloc (Below.refl _ _) (Nat.le_refl _) _
                              have HXa := Lib.hid (HXa18.out.below ba)
                              have HLa := Lib.hid (OwnL.below HPa18.out ba)
                              have HQa18a := Lib.hid (OwnL.below HQa18.out ba)
                              have Da := Da18.belowK ba Da18.lt
                              have RA : Row (wc.alloc (.cells #[.string p1] 9)) wc.heap.size [.string p1] := Row.alloc wc _ _
                              have hbas : wo.heap.size ≤ ((wc.alloc (.cells #[.string p1] 9))).heap.size := by have h1 := HXa.out.ch.size; omega
                              go_wp2_with (at_builtin; refine stopQ ?_)
                              intro _
                              refine wpList_app1at scell 1 scell_len _ rfl _ _ _ rfl (wo.heap.size) 9 s0 (.string .empty) 16 Tryz.underlying26 si sz0 sz1 sz2 rfl (by decide) pv ps rfl HLa.out _ 1 p1 rfl RA (by simp [scell, Value.oneCell']) (by omega) (by omega) hbas ?_
                              intro v' w20 how hgr hat
                              obtain ⟨Ap, np, kp, rfl⟩ := own_slice how
                              have HX20 := HXa.out.grown hgr (fun k hk => (World.ownsRow.lt HLa.out k hk).1)
                              have x20 := HX20.row 2 _ rfl
                              have f20 := HX20.fr 2
                              have HXN := Lib.hid (HX20.set (o := 2) (.slice Ap np kp) (by simp))
                              have HPN := Lib.hid (far_set (g := be) (o := 2) (u := .slice Ap np kp) how (by omega))
                              have HQN := Lib.hid (far_set (g := be) (o := 2) (u := .slice Ap np kp) (OwnL.kept HQa18a.out hgr (dj_kept HJ.out.symm)) (by omega))
                              have HJN := Lib.hid (HJ.out.new hat (own_hi HQa18a.out))
                              have DN := (Da.grown hgr (fun k hk => by have := (World.ownsRow.lt HLa.out k hk).1; omega)).setNew (b := be) (o := 2) hgbe (.slice Ap np kp)
                              clear x2 HXa18 HPa18 HQa18 HXa HLa HQa18a Da RA how hgr hat HX20 ba hbas Da18 HJ
                              go_upto_region 33 with (fail)
                              clear x20 f20
                              generalize (w20.setCell ⟨be, 2, none⟩ (.slice Ap np kp)) = w21 at *
                              have x3 := HXN.out.row 3 _ rfl
                              have ba : Below w21.heap.size w21 (w21.alloc (.cells #[.string q1] 9)) := Below.alloc (Below.refl _ _) (Nat.le_refl _) _
                              have HXa := Lib.hid (HXN.out.below ba)
                              have HLa := Lib.hid (OwnL.below HQN.out ba)
                              have HPNa := Lib.hid (OwnL.below HPN.out ba)
                              have Da := DN.belowK ba DN.lt
                              have RA : Row (w21.alloc (.cells #[.string q1] 9)) w21.heap.size [.string q1] := Row.alloc w21 _ _
                              have hbas : wo.heap.size ≤ ((w21.alloc (.cells #[.string q1] 9))).heap.size := by have h1 := HXa.out.ch.size; omega
                              go_wp2_with (at_builtin; refine stopQ ?_)
                              intro _
                              refine wpList_app1at scell 1 scell_len _ rfl _ _ _ rfl (wo.heap.size) 9 s0 (.string .empty) 16 Tryz.underlying26 si sz0 sz1 sz2 rfl (by decide) qv qs rfl HLa.out _ 1 q1 rfl RA (by simp [scell, Value.oneCell']) (by omega) (by omega) hbas ?_
                              intro v' w22 how hgr hat
                              obtain ⟨Aq, nq, kq, rfl⟩ := own_slice how
                              have HX22 := HXa.out.grown hgr (fun k hk => (World.ownsRow.lt HLa.out k hk).1)
                              have x22 := HX22.row 3 _ rfl
                              have f22 := HX22.fr 3
                              have HXM := Lib.hid (HX22.set (o := 3) (.slice Aq nq kq) (by simp))
                              have HQM := Lib.hid (far_set (g := be) (o := 3) (u := .slice Aq nq kq) how (by omega))
                              have HPM := Lib.hid (far_set (g := be) (o := 3) (u := .slice Aq nq kq) (OwnL.kept HPNa.out hgr (dj_kept HJN.out)) (by omega))
                              have HJM := Lib.hid (Dj.symm (HJN.out.symm.new hat (own_hi HPNa.out)))
                              have DM := (Da.grown hgr (fun k hk => by have := (World.ownsRow.lt HLa.out k hk).1; omega)).setNew (b := be) (o := 3) hgbe (.slice Aq nq kq)
                              have HPQN : Hid ((∀ s ∈ ps ++ [p1], s.size ≤ 64) ∧ ∀ s ∈ qs ++ [q1], s.size ≤ 64) := Lib.hid ⟨fun s hs => by
                                rcases List.mem_append.1 hs with hs | hs
                                · exact HPQ.out.1 s hs
                                · obtain rfl : s = p1 := by simpa using hs
                                  exact hp1, fun s hs => by
                                rcases List.mem_append.1 hs with hs | hs
                                · exact HPQ.out.2 s hs
                                · obtain rfl : s = q1 := by simpa using hs
                                  exact hq1⟩
                              clear x3 HXN HPN HQN HXa HLa HPNa Da RA how hgr hat HX22 ba hbas DN HJN
                              go_wp2_with (fail)
                              go_roundw
                              case rel => exact ⟨t + 1, a18, _, _, _, _, by omega, by go_num, by omega, DM, by simp; omega, by simp; omega, HPQN, HXM, HPM, HQM, HJM⟩
                              case measure => simp [intOf]; omega
                · obtain rfl : T = t := by omega
                  have HUf := HU10.out.chx HX.out.ch (by omega) (by omega)
                  have HIf := OwnL.chxB HI.out HX.out.ch (by omega) (by omega)
                  obtain ⟨Av, nv, kv, rfl⟩ := own_slice HUf.o
                  obtain ⟨Ac, nc, kc, rfl⟩ := own_slice HIf
                  obtain ⟨Ap, np, kp, rfl⟩ := own_slice HP.out
                  obtain ⟨Aq, nq, kq, rfl⟩ := own_slice HQ.out
                  have hobe := HCx.out.obe
                  have HN : Hid (EvN pl cr ps qs) := Lib.hid ⟨by omega, fun p hp => by have h1 := HPL.out p hp; exact ⟨by omega, fun s hs => by have := h1.2 s hs; omega⟩, by omega, by omega, by omega, HPQ.out.1, HPQ.out.2⟩
                  have HE9 : Hid (EvX w.heap.size ((((wr.setCell ⟨w.heap.size, 0, none⟩ (.slice Av nv kv)).setCell ⟨w.heap.size, 1, none⟩ (.slice Ac nc kc)).setCell ⟨w.heap.size, 2, none⟩ (.slice Ap np kp)).setCell ⟨w.heap.size, 3, none⟩ (.slice Aq nq kq)) (.slice Av nv kv) (.slice Ac nc kc) (.slice Ap np kp) (.slice Aq nq kq) pl cr ps qs) := Lib.hid
                    ⟨OutL.base (OutL.far (OutL.far (OutL.far (OutL.far HUf (by omega)) (by omega)) (by omega)) (by omega)) (by omega), OwnL.base (far_set (far_set (far_set (far_set HIf (by omega)) (by omega)) (by omega)) (by omega)) (by omega), OwnL.base (far_set (far_set (far_set (far_set HP.out (by omega)) (by omega)) (by omega)) (by omega)) (by omega), OwnL.base (far_set (far_set (far_set (far_set HQ.out (by omega)) (by omega)) (by omega)) (by omega)) (by omega),
                      HJab.out, Dj.lt (own_hi HU10.out.o) (own_lo HP.out), Dj.lt (own_hi HU10.out.o) (own_lo HQ.out), Dj.lt (own_hi HI.out) (own_lo HP.out), Dj.lt (own_hi HI.out) (own_lo HQ.out), HJ.out, fun x hx => ⟨HPb.out x hx, Dj.lt (own_hi (HU10.out.s x hx).1) (own_lo HP.out), Dj.lt (own_hi (HU10.out.s x hx).1) (own_lo HQ.out)⟩⟩
                  have HC9 : Hid (Chg g (g + 1) w ((((wr.setCell ⟨w.heap.size, 0, none⟩ (.slice Av nv kv)).setCell ⟨w.heap.size, 1, none⟩ (.slice Ac nc kc)).setCell ⟨w.heap.size, 2, none⟩ (.slice Ap np kp)).setCell ⟨w.heap.size, 3, none⟩ (.slice Aq nq kq))) := Lib.hid (Chg.setNew (Chg.setNew (Chg.setNew (Chg.setNew HCx.out.ch (Nat.le_refl _) _) (Nat.le_refl _) _) (Nat.le_refl _) _) (Nat.le_refl _) _)
                  have HD9 : Hid (DrAt ((((wr.setCell ⟨w.heap.size, 0, none⟩ (.slice Av nv kv)).setCell ⟨w.heap.size, 1, none⟩ (.slice Ac nc kc)).setCell ⟨w.heap.size, 2, none⟩ (.slice Ap np kp)).setCell ⟨w.heap.size, 3, none⟩ (.slice Aq nq kq)) g A n c a12) := Lib.hid (DrAt.setNew (DrAt.setNew (DrAt.setNew (DrAt.setNew D12 hg _) hg _) hg _) hg _)
                  have R9 : Row ((((wr.setCell ⟨w.heap.size, 0, none⟩ (.slice Av nv kv)).setCell ⟨w.heap.size, 1, none⟩ (.slice Ac nc kc)).setCell ⟨w.heap.size, 2, none⟩ (.slice Ap np kp)).setCell ⟨w.heap.size, 3, none⟩ (.slice Aq nq kq)) w.heap.size [.slice Av nv kv, .slice Ac nc kc, .slice Ap np kp, .slice Aq nq kq] := (((HCx.out.rb.set (o := 0) (.slice Av nv kv) (by simp)).set (o := 1) (.slice Ac nc kc) (by simp)).set (o := 2) (.slice Ap np kp) (by simp)).set (o := 3) (.slice Aq nq kq) (by simp)
                  have d0 := HCx.out.rd 0 _ rfl
                  have d1 := HCx.out.rd 1 _ rfl
                  have y0 := HCx.out.rb 0 _ rfl
                  have y1 := HCx.out.rb 1 _ rfl
                  have y2 := HCx.out.rb 2 _ rfl
                  have y3 := HCx.out.rb 3 _ rfl
                  have f0 := HCx.out.fb 0
                  have f1 := HCx.out.fb 1
                  have f2 := HCx.out.fb 2
                  have f3 := HCx.out.fb 3
                  have x0 := HX.out.row 0 _ rfl
                  have x1 := HX.out.row 1 _ rfl
                  have x2 := HX.out.row 2 _ rfl
                  have x3 := HX.out.row 3 _ rfl
                  have v0 := R9 0 _ rfl
                  have v1 := R9 1 _ rfl
                  have v2 := R9 2 _ rfl
                  have v3 := R9 3 _ rfl
                  have hTi := HTI.out
                  have hw1 : IntKind.i64.wrap (T : Int) = (T : Int) := by rw [IntKind.wrap_i64]; omega
                  clear R9 HUf HIf HX HP HQ HU10 HI HJ HCx D12 HC10
                  go_wp2_with (fail)
                  generalize ((((wr.setCell ⟨w.heap.size, 0, none⟩ (.slice Av nv kv)).setCell ⟨w.heap.size, 1, none⟩ (.slice Ac nc kc)).setCell ⟨w.heap.size, 2, none⟩ (.slice Ap np kp)).setCell ⟨w.heap.size, 3, none⟩ (.slice Aq nq kq)) = W9 at *
                  exact bodyPost_ret (v := .agg #[.slice Av nv kv, .slice Ac nc kc, .slice Ap np kp, .slice Aq nq kq]) (by simp [results, Tryz.results35, go_sem, v0, v1, v2, v3] <;> rfl) rfl ⟨_, _, _, _, pl, cr, ps, qs, a12, rfl, HE9.out, HN.out, by omega, by omega, HD9.out, HC9.out⟩
end Go.Proofs.YtddihmpiaemadaaGreatDoor
