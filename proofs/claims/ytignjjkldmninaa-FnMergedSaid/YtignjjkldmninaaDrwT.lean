/- The laws' drawn dumps whose good sectors are right: the walk. -/
import Derived.Test.YtignjjkldmninaaDrwD
import Derived.Test.YtignjjkldmninaaBest
import Derived.Test.YtignjjkldmninaaColLaw
namespace Go.Proofs.Ytignjjkldmninaa
set_option linter.unusedVariables false
open Go.RowKit
/-- a disc, and dumps whose good sectors are its own -/
structure TruthK (T : Dsc) (l : List Dsc) : Prop where
  ok : dumpsOk l = true
  len : ∀ d ∈ l, d.secs.length = T.secs.length
  st : ∀ t ∈ T.secs, t.state = 1
  good : ∀ d ∈ l, ∀ (k : Nat) (s t : Sec), d.secs[k]? = some s → T.secs[k]? = some t → s.state = 1 → s = t
/-- the sectors that are taken for right, and a dump's behind them -/
def trS (l : List Sec) : List Sec := l.map fun s => ⟨s.data, 1⟩
def trD1 (t s : Sec) : Sec := if s.state = 1 then t else s
theorem trS_len (l : List Sec) : (trS l).length = l.length := by simp [trS]
theorem trS_get {l : List Sec} {k : Nat} {s : Sec} (h : l[k]? = some s) : (trS l)[k]? = some ⟨s.data, 1⟩ := by simp [trS, h]
/-- the first k sectors of a dump behind the right ones -/
def trP (t s : List Sec) (k : Nat) : List Sec := (List.range k).map fun i => trD1 (t.getD i secZ) (s.getD i secZ)
theorem trP_succ {t s : List Sec} {k : Nat} {x y : Sec} (hx : t[k]? = some x) (hy : s[k]? = some y) : trP t s (k + 1) = trP t s k ++ [trD1 x y] := by
  simp [trP, List.range_succ, List.getD_eq_getElem?_getD, hx, hy]
theorem trP_len (t s : List Sec) (k : Nat) : (trP t s k).length = k := by simp [trP]
theorem trP_get {t s : List Sec} {k n : Nat} {x y z : Sec} (hx : t[k]? = some x) (hy : s[k]? = some y) (hz : (trP t s n)[k]? = some z) : z = trD1 x y := by
  have hk : k < n := by have := (List.getElem?_eq_some_iff.1 hz).1; rwa [trP_len] at this
  simp [trP, hk, List.getD_eq_getElem?_getD, hx, hy] at hz
  exact hz.symm
theorem truth_k {z : Dsc} {l L : List Dsc} (hz : z ∈ l) (hg : geoB z.cyl z.heads z.per z.size = true) (hs : (z.secs.length : Int) = z.cyl * z.heads * z.per) (hso : ∀ d ∈ l, ∀ s ∈ d.secs, secOk s (szN z.size) = true) (hlen : ∀ d ∈ l, d.secs.length = z.secs.length) (h1 : 1 ≤ L.length) (h5 : L.length ≤ 5) (hL : ∀ p ∈ L, p.bare = z.bare ∧ p.secs.length = z.secs.length ∧ ∃ d ∈ l, p.secs = trP (trS z.secs) d.secs z.secs.length) :
    TruthK ⟨z.cyl, z.heads, z.per, z.size, trS z.secs⟩ L := by
  have at_ : ∀ d ∈ l, ∀ (k : Nat) (x : Sec), (trP (trS z.secs) d.secs z.secs.length)[k]? = some x → ∃ s0 s, z.secs[k]? = some s0 ∧ s ∈ d.secs ∧ x = trD1 ⟨s0.data, 1⟩ s := fun d hd k x hx => by
    have hk : k < z.secs.length := by have := (List.getElem?_eq_some_iff.1 hx).1; rwa [trP_len] at this
    have hk2 : k < d.secs.length := by rw [hlen d hd]; exact hk
    have e1 := List.getElem?_eq_getElem hk
    have e2 := List.getElem?_eq_getElem hk2
    exact ⟨_, _, e1, List.getElem_mem hk2, trP_get (trS_get e1) e2 hx⟩
  have tok : ∀ s0 ∈ z.secs, secOk ⟨s0.data, 1⟩ (szN z.size) = true := fun s0 h0 => by
    have h2 := hso z hz s0 h0
    unfold secOk at h2; simp only [Bool.and_eq_true, decide_eq_true_eq] at h2
    exact secOk_yes rfl h2.1.2 rfl
  refine ⟨dumps_of (z := z) (n := z.secs.length) h1 h5 hg hs (fun p hp => ?_), fun p hp => ?_, fun t ht => ?_, fun p hp k s t hs' ht h1' => ?_⟩
  · obtain ⟨h2, h3, d, hd, h4⟩ := hL p hp
    refine ⟨h2, h3, fun x hx => ?_⟩
    rw [h4] at hx
    obtain ⟨k, hk⟩ := List.mem_iff_getElem?.1 hx
    obtain ⟨s0, s, e1, e2, rfl⟩ := at_ d hd k x hk
    unfold trD1
    split
    · exact tok s0 (List.mem_of_getElem? e1)
    · exact hso d hd s e2
  · obtain ⟨_, h3, _⟩ := hL p hp
    rw [h3]; exact (trS_len _).symm
  · obtain ⟨s0, _, rfl⟩ := List.mem_map.1 ht; rfl
  · obtain ⟨_, _, d, hd, h4⟩ := hL p hp
    rw [h4] at hs'
    obtain ⟨s0, s2, e1, e2, rfl⟩ := at_ d hd k s hs'
    have e3 : (trS z.secs)[k]? = some t := ht
    rw [trS_get e1] at e3
    injection e3 with e3
    unfold trD1 at h1' ⊢
    by_cases hst : s2.state = 1
    · rw [if_pos hst]; exact e3
    · rw [if_neg hst] at h1'; exact absurd h1' hst
theorem OutL.setFar {B W g o : _} {v : Value} {pl : List (Dsc × Value)} (h : OutL B W v pl) (hg : g < B) (us : List Value) : OutL B (setL W g o us) v pl := ⟨setL_far hg us h.o, fun p hp => ⟨setL_far hg us (h.s p hp).1, (h.s p hp).2⟩⟩
set_option maxRecDepth 20000 in
set_option maxHeartbeats 8000000 in
theorem e8truth_s (A : Option Addr) (n c : Nat) (w : World) (h : BytesIn w A n) (hn : n ≤ 1048576) :
    Calls Try.prog 61 #[.slice A n c] w fun e w' => ∃ (T : Dsc) (vt v : Value) (l : List Dsc), e = .returned (.tuple #[dscV T vt, v]) ∧ SecOwn w.heap.size w' vt T.secs ∧ DscOwn w.heap.size w' v l ∧ TruthK T l ∧ Below w.heap.size w w' := by
  obtain ⟨i0, hi, hz0, hz1, hz2⟩ := info_parts Sec.info
  obtain ⟨i1, ji, jz0, jz1, jz2⟩ := info_parts dpc_info
  have hA : Below w.heap.size w (w.alloc (.cells #[.int .i64 0, .int .i64 0, .int .i64 0, .int .i64 0, .slice none 0 0] 39)) := Below.alloc (Below.refl _ _) (Nat.le_refl _) _
  have HR2 : Hid (Row (w.alloc (.cells #[.int .i64 0, .int .i64 0, .int .i64 0, .int .i64 0, .slice none 0 0] 39)) w.heap.size (dskL 0 0 0 0 (.slice none 0 0))) := Lib.hid (Row.alloc w _ _)
  have HF2 : Hid (∀ o, (w.alloc (.cells #[.int .i64 0, .int .i64 0, .int .i64 0, .int .i64 0, .slice none 0 0] 39)).frozen? ⟨w.heap.size, o, none⟩ = false) := Lib.hid alloc_fr
  have hz2' : w.heap.size < (w.alloc (.cells #[.int .i64 0, .int .i64 0, .int .i64 0, .int .i64 0, .slice none 0 0] 39)).heap.size := by simp
  have hI := h.below hA (Nat.le_refl _)
  go_enter Try.func61, Try.ntmps61
  go_upto_region 1 with (fail)
  generalize (w.alloc (.cells #[.int .i64 0, .int .i64 0, .int .i64 0, .int .i64 0, .slice none 0 0] 39)) = wa at *
  have hD : DrAt (wa.alloc (.cells #[.slice A n c, .int .i64 0, .int .u64 0] 130)) wa.heap.size A n c 0 := by
    refine ⟨by simp, by simp, by simp, ⟨0, by simp⟩, by simp, ?_⟩
    rcases hI with h | ⟨b, o, h1, h2, h3⟩
    · exact .inl h
    · exact .inr ⟨b, o, h1, h2, fun j hj => by
        obtain ⟨x, hx, hc⟩ := h3 j hj
        exact ⟨x, hx, (World.cell?_alloc_old _ _ _ (Nat.ne_of_lt h2)).trans hc⟩⟩
  have HG := draw24 wa.heap.size A n c 0 _ hD hn (by omega)
  have hB : Below wa.heap.size wa (wa.alloc (.cells #[.slice A n c, .int .i64 0, .int .u64 0] 130)) := Below.alloc (Below.refl _ _) (Nat.le_refl _) _
  have hzb : wa.heap.size < (wa.alloc (.cells #[.slice A n c, .int .i64 0, .int .u64 0] 130)).heap.size := by simp
  clear h hI hD
  go_upto_region 2 with (go_in)
  generalize (wa.alloc (.cells #[.slice A n c, .int .i64 0, .int .u64 0] 130)) = wb at *
  go_wp2_with (fail)
  refine HG.mono ?_; rintro e w1 ⟨v0, l, rfl, hO, hok, hC⟩
  have hb1 : Below wa.heap.size wa w1 := hB.trans ⟨hC.os, hC.tape, hC.output, hC.size, fun k hk => hC.block k (by omega) (by omega)⟩
  clear HG hC hB
  obtain ⟨z, hz⟩ := du_first hok
  have h5 := du_len hok
  have hl1 : 1 ≤ l.length := List.length_pos_iff.2 (by rintro rfl; cases hz)
  have hgz := ok_geo (du_mem hok hz (List.mem_of_getElem? hz)).1
  have hsz := ok_secs (du_mem hok hz (List.mem_of_getElem? hz)).1
  have hN : z.secs.length ≤ 128 := ok_le (du_mem hok hz (List.mem_of_getElem? hz)).1
  have HLEN := Lib.hid (fun d hd => du_secs hok hz (d := d) hd)
  have HSO : Hid (∀ d ∈ l, ∀ s ∈ d.secs, secOk s (szN z.size) = true) := Lib.hid (fun d hd s hs => by
    obtain ⟨h1, h2⟩ := du_mem hok hz hd
    have h5 : d.size = z.size := by unfold sameG at h2; simp at h2; exact h2.2
    unfold discOk at h1
    simp only [Bool.and_eq_true, List.all_eq_true] at h1
    rw [← h5]; exact h1.2.2 s hs)
  have HGZ := Lib.hid (And.intro hgz hsz)
  obtain ⟨Ad, cd, rfl, hAd⟩ := hO
  obtain ⟨g, rfl, hgl, hg, hc⟩ := hAd.resolve_left (by rintro rfl; simp at hl1)
  have HC := Lib.hid hc
  obtain ⟨vz, oz, cz⟩ := hc 0 z hz
  obtain ⟨Az, czp, rfl, _⟩ := OwnL.shape oz
  have RZ : Row w1 g (dscL z (.slice Az z.secs.length czp)) := fun j u hu => by
    have := cz j u (by simpa [Dsc.ints] using hu)
    simpa using this
  have HZM := Lib.hid (List.mem_of_getElem? hz)
  have HRZ := Lib.hid RZ
  have HOZ := Lib.hid oz
  have HR2b := Lib.hid (HR2.out.below hb1 hz2')
  have HF2b := Lib.hid (frozen_below HF2.out hb1 hz2')
  have HB1 := Lib.hid (hA.trans (hb1.mono hA.size))
  have z1 : w.heap.size < w1.heap.size := Nat.lt_of_lt_of_le hz2' hb1.size
  have HLK : Hid (Calls Try.prog 82 #[.pointer (some ⟨g, 0, none⟩)] w1 fun e w' => e = .returned (.agg #[.int .i64 z.cyl, .int .i64 z.heads, .int .i64 z.per, .int .i64 z.size, .slice none 0 0]) ∧ Below w1.heap.size w1 w') := Lib.hid (like_s g z _ w1 RZ hg)
  clear hok hz hgz hsz hc oz cz RZ hA HR2 HF2 hz2' hzb hAd hb1
  go_wp2_with (fail)
  refine HLK.out.mono ?_; rintro e w2 ⟨rfl, hb2⟩
  clear HLK
  have hB3 : Below w2.heap.size w2 (w2.alloc (.cells #[.int .i64 z.cyl, .int .i64 z.heads, .int .i64 z.per, .int .i64 z.size, .slice none 0 0] 39)) := Below.alloc (Below.refl _ _) (Nat.le_refl _) _
  have HRT : Hid (Row (w2.alloc (.cells #[.int .i64 z.cyl, .int .i64 z.heads, .int .i64 z.per, .int .i64 z.size, .slice none 0 0] 39)) w2.heap.size (dscL z (.slice none 0 0))) := Lib.hid (Row.alloc w2 _ _)
  have HFT : Hid (∀ o, (w2.alloc (.cells #[.int .i64 z.cyl, .int .i64 z.heads, .int .i64 z.per, .int .i64 z.size, .slice none 0 0] 39)).frozen? ⟨w2.heap.size, o, none⟩ = false) := Lib.hid alloc_fr
  have hb3 : Below w1.heap.size w1 (w2.alloc (.cells #[.int .i64 z.cyl, .int .i64 z.heads, .int .i64 z.per, .int .i64 z.size, .slice none 0 0] 39)) := hb2.alloc hb2.size _
  have z2 : w1.heap.size ≤ w2.heap.size := hb2.size
  have z3 : w2.heap.size < (w2.alloc (.cells #[.int .i64 z.cyl, .int .i64 z.heads, .int .i64 z.per, .int .i64 z.size, .slice none 0 0] 39)).heap.size := by simp
  clear hB3 hb2
  go_upto_region 5 with (fail)
  generalize (w2.alloc (.cells #[.int .i64 z.cyl, .int .i64 z.heads, .int .i64 z.per, .int .i64 z.size, .slice none 0 0] 39)) = w3 at *
  generalize w2.heap.size = bt at *
  have HP0 : Hid (SecOwn (bt + 1) w3 (.slice none 0 0) (trS (z.secs.take 0))) := Lib.hid OwnL.of_nil
  go_loopw [7] (fun i wx => ∃ (k : Nat) (v : Value), k ≤ z.secs.length ∧ i = .int .i64 k ∧ Below w1.heap.size w1 wx ∧ bt < wx.heap.size ∧ Hid (Row wx bt (dscL z v)) ∧ Hid (∀ o, wx.frozen? ⟨bt, o, none⟩ = false) ∧ Hid (SecOwn (bt + 1) wx v (trS (z.secs.take k)))) (fun i _ => z.secs.length - (intOf i).toNat)
  case atStart => exact ⟨0, _, by omega, rfl, hb3, z3, HRT, HFT, HP0⟩
  case round =>
    clear HRT HFT HP0 hb3 z3
    obtain ⟨k, v, hk, rfl, hbx, hzx, HR, HF, HP⟩ := hrel
    have q4 := HRZ.out.below hbx hg 4 _ rfl
    by_cases hlt : k < z.secs.length
    · obtain ⟨e, he⟩ : ∃ e, z.secs[k]? = some e := ⟨z.secs[k], List.getElem?_eq_getElem hlt⟩
      have HT : Hid (trS (z.secs.take (k + 1)) = trS (z.secs.take k) ++ [⟨e.data, 1⟩]) := Lib.hid (by
        rw [List.take_succ_eq_append_getElem hlt]
        have : z.secs[k] = e := (List.getElem?_eq_some_iff.1 he).2
        simp [trS, this])
      have oz := OwnL.below HOZ.out hbx
      obtain ⟨gz, rfl⟩ : ∃ gz, Az = some ⟨gz, 0, none⟩ := by
        obtain ⟨A0, c0, h0, h1⟩ := OwnL.shape oz
        injection h0 with h0 _ _
        obtain ⟨g0, h4, _⟩ := h1.resolve_left (by intro he; rw [he] at hlt; simp at hlt)
        exact ⟨g0, h0.trans h4⟩
      have e0 := OwnL.at1 (j := 0) Sec.len oz he rfl
      simp only [Nat.add_zero] at e0
      have x4 := HR.out 4 _ rfl
      have gg : g < wr.heap.size := Nat.lt_of_lt_of_le hg hbx.size
      have ggz := World.block_lt_of_cell? wr _ e0
      have hl1k : (trS (z.secs.take k)).length + 1 ≤ 16777216 := by rw [trS_len, List.length_take]; omega
      have hone : ∀ u ∈ Sec.cells (⟨e.data, 1⟩ : Sec), u.oneCell' = true := sec_one _
      have hl3 : Below wr.heap.size wr wr.drew := (Below.refl _ _).drew
      have HPd := Lib.hid (OwnL.alloc (OwnL.below HP.out hl3) (.cells #[.string e.data, .int .i64 1] 48))
      have hbase : bt + 1 ≤ (wr.drew.alloc (.cells #[.string e.data, .int .i64 1] 48)).heap.size := by simp; omega
      have HRA : Hid (Row (wr.drew.alloc (.cells #[.string e.data, .int .i64 1] 48)) wr.heap.size [.string e.data, .int .i64 1]) := Lib.hid (Row.alloc wr.drew _ _)
      have hlo := World.ownsRow.lt HPd.out
      have HRd := Lib.hid ((HR.out.below hl3 hzx).below (Below.alloc (Below.refl wr.drew.heap.size wr.drew) (Nat.le_refl _) (.cells #[.string e.data, .int .i64 1] 48)) hzx)
      have HFd := Lib.hid (frozen_below (frozen_below HF.out hl3 hzx) (Below.alloc (Below.refl wr.drew.heap.size wr.drew) (Nat.le_refl _) (.cells #[.string e.data, .int .i64 1] 48)) hzx)
      have hbd : Below w1.heap.size w1 (wr.drew.alloc (.cells #[.string e.data, .int .i64 1] 48)) := (hbx.trans (hl3.mono hbx.size)).alloc hbx.size _
      have hlp0 : 0 < l.length := hl1
      have hlp1 : (0 : Int) < (l.length : Int) := by omega
      clear he oz hl3
      go_wp2_with (fail)
      go_region_law (refine step_app1 Sec.cells 2 Sec.len _ (by rfl) _ _ _ (by rfl) (bt + 1) 48 i0 (.agg #[.string .empty, .int .i64 0]) 24 Try.underlying37 hi hz0 hz1 hz2 rfl (by decide) v (trS (z.secs.take k)) (by rfl) HPd.out _ 1 ⟨e.data, 1⟩ (by rfl) HRA.out hone hl1k (by decide) hbase ?_; intro g6 c6 w6 how6 hg6 hat6; have hr6 : ∀ q, v.ownBlock = some q → bt + 1 ≤ q := (fun q hq => (hlo q hq).1); have HR6 := Lib.hid (HRd.out.grown hg6 (by simp; omega) (by intro e6; have := hr6 _ e6; omega)); have HF6 := Lib.hid (frozen_grown HFd.out hg6 (by simp; omega) (by intro e6; have := hr6 _ e6; omega)); have hb6 : Below w1.heap.size w1 w6 := hbd.grown hg6 (by simp; omega) (fun q hq => by have := hr6 q hq; omega); have HO6 := Lib.hid how6; have t4 := HR6.out 4 _ rfl; have t5 := HF6.out 4; have z6 := hg6.size; clear how6 hg6)
      all_goals
        go_wp2
        go_roundw
        case rel => exact ⟨k + 1, .slice (some ⟨g6, 0, none⟩) ((trS (z.secs.take k)).length + 1) c6, by omega, by go_num, Below.setCell hb6 (show w1.heap.size ≤ bt by omega) _, by simp; simp at z6; omega, Lib.hid (HR6.out.set (o := 4) _ (by simp)), Lib.hid (fun o => (setCell_frozen _ _ _ _).trans (HF6.out o)), by rw [HT.out]; exact Lib.hid (far_set HO6.out (Nat.lt_succ_self bt))⟩
        case measure => simp [intOf]; omega
    · obtain rfl : k = z.secs.length := by omega
      rw [List.take_of_length_le (Nat.le_refl _)] at HP
      obtain ⟨T, hT⟩ : ∃ T, trS z.secs = T := ⟨_, rfl⟩
      rw [hT] at HP
      have HTT := Lib.hid hT
      have hTN : T.length = z.secs.length := by rw [← hT]; exact trS_len _
      have HTN := Lib.hid hTN
      obtain ⟨At, ct, hv, hAt⟩ := OwnL.shape HP.out
      rw [hTN] at hv
      subst hv
      have HAT := Lib.hid hAt
      have hzp : 1 ≤ z.secs.length := by have h1 := HGZ.out; have := (prod_bd (geo_parts h1.1).1 (geo_parts h1.1).2.1 (geo_parts h1.1).2.2.1).2; omega
      obtain ⟨gt, rfl, hgt1, hgt2⟩ := hAt.resolve_left (by intro e; rw [e] at hTN; simp at hTN; omega)
      clear hT hTN HAT hAt
      generalize hwp : wr = w5 at *
      clear hwp
      have hbx5 := hbx
      have hB5 : Below w5.heap.size w5 (w5.alloc (.cells #[] 39)) := Below.alloc (Below.refl _ _) (Nat.le_refl _) _
      have HR5 := Lib.hid HR.out
      have HP5 := Lib.hid HP.out
      have HU : Hid (OutL (bt + 1) (w5.alloc (.cells #[] 39)) (.slice (some ⟨w5.heap.size, 0, none⟩) 0 0) []) := Lib.hid ⟨OwnL.of_empty w5 hzx, fun p hp => by cases hp⟩
      have hzx5 : bt < w5.heap.size := by omega
      have hgt5 : gt < w5.heap.size := by omega
      clear HR HF HP
      go_upto_region 9 with (fail)
      generalize (w5.alloc (.cells #[] 39)) = w6 at *
      go_wp2_with (fail)
      go_loopw [9, 8] (fun i out wx => ∃ (k : Nat) (pl : List (Dsc × Value)), k ≤ l.length ∧ i = .int .i64 k ∧ Hid (pl.length = k) ∧ Below w5.heap.size w5 wx ∧ Hid (OutL (bt + 1) wx out pl) ∧ (∀ b, out.ownBlock = some b → w5.heap.size ≤ b) ∧ Hid (∀ p ∈ pl, p.1.bare = z.bare ∧ p.1.secs.length = z.secs.length ∧ ∃ d ∈ l, p.1.secs = trP T d.secs z.secs.length)) (fun i _ _ => l.length - (intOf i).toNat)
      case atStart => exact ⟨0, [], by omega, rfl, Lib.hid rfl, hB5, HU, fun b hb => by simp [Value.ownBlock] at hb; omega, Lib.hid (fun p hp => by cases hp)⟩
      case round =>
        clear HU
        obtain ⟨k, pl, hk, rfl, HPL, hb, HU, hob, HD⟩ := hrel
        have zr := hb.size
        have hb15 := hbx5.trans (hb.mono hbx5.size)
        by_cases hlt : k < l.length
        · obtain ⟨d, hd⟩ : ∃ d, l[k]? = some d := ⟨l[k], List.getElem?_eq_getElem hlt⟩
          obtain ⟨bv, o1, c1⟩ := HC.out k d hd
          have hdN : d.secs.length = z.secs.length := HLEN.out d (List.mem_of_getElem? hd)
          obtain ⟨Ax, cx, hbv, hAx⟩ := OwnL.shape o1
          rw [hdN] at hbv
          subst hbv
          obtain ⟨gx, rfl, _, hgx⟩ := hAx.resolve_left (by intro e; rw [e] at hdN; simp at hdN; omega)
          have p4 := (hb15.cell (p := ⟨g, k * 5 + 4, none⟩) hg).trans (c1 4 _ rfl)
          have HDM := Lib.hid (List.mem_of_getElem? hd)
          have HO1 := Lib.hid o1
          have HDN := Lib.hid hdN
          have HL : Hid (Calls Try.prog 82 #[.pointer (some ⟨bt, 0, none⟩)] wr fun e w' => e = .returned (.agg #[.int .i64 z.cyl, .int .i64 z.heads, .int .i64 z.per, .int .i64 z.size, .slice none 0 0]) ∧ Below wr.heap.size wr w') := Lib.hid (like_s bt z _ wr (HR5.out.below hb hzx5) (by omega))
          clear hd o1 c1 hdN hAx
          go_wp2_with (fail)
          refine HL.out.mono ?_; rintro e w7 ⟨rfl, hb7⟩
          clear HL
          have hB8 : Below wr.heap.size wr (w7.alloc (.cells #[.int .i64 z.cyl, .int .i64 z.heads, .int .i64 z.per, .int .i64 z.size, .slice none 0 0] 39)) := hb7.alloc hb7.size _
          have HRd0 : Hid (Row (w7.alloc (.cells #[.int .i64 z.cyl, .int .i64 z.heads, .int .i64 z.per, .int .i64 z.size, .slice none 0 0] 39)) w7.heap.size (dscL z (.slice none 0 0))) := Lib.hid (Row.alloc w7 _ _)
          have HFd0 : Hid (∀ o, (w7.alloc (.cells #[.int .i64 z.cyl, .int .i64 z.heads, .int .i64 z.per, .int .i64 z.size, .slice none 0 0] 39)).frozen? ⟨w7.heap.size, o, none⟩ = false) := Lib.hid alloc_fr
          have hbd0 : w7.heap.size < (w7.alloc (.cells #[.int .i64 z.cyl, .int .i64 z.heads, .int .i64 z.per, .int .i64 z.size, .slice none 0 0] 39)).heap.size := by simp
          have hbdo : wr.heap.size ≤ w7.heap.size := hb7.size
          have HQ0 : Hid (SecOwn (w7.heap.size + 1) (w7.alloc (.cells #[.int .i64 z.cyl, .int .i64 z.heads, .int .i64 z.per, .int .i64 z.size, .slice none 0 0] 39)) (.slice none 0 0) (trP T d.secs 0)) := Lib.hid OwnL.of_nil
          clear hb7
          go_upto_region 14 with (fail)
          generalize (w7.alloc (.cells #[.int .i64 z.cyl, .int .i64 z.heads, .int .i64 z.per, .int .i64 z.size, .slice none 0 0] 39)) = W8 at *
          generalize w7.heap.size = bd at *
          have q4 := p4
          clear p4
          generalize hwo : wr = wo at *
          clear hwo
          go_loopw [11] (fun i wx => ∃ (k2 : Nat) (vd : Value), k2 ≤ z.secs.length ∧ i = .int .i64 k2 ∧ Below wo.heap.size wo wx ∧ bd < wx.heap.size ∧ Hid (Row wx bd (dscL z vd)) ∧ Hid (∀ o, wx.frozen? ⟨bd, o, none⟩ = false) ∧ Hid (SecOwn (bd + 1) wx vd (trP T d.secs k2))) (fun i _ => z.secs.length - (intOf i).toNat)
          case atStart => exact ⟨0, _, by omega, rfl, hB8, hbd0, HRd0, HFd0, HQ0⟩
          case round =>
            clear HRd0 HFd0 HQ0 hB8 hbd0
            obtain ⟨k2, vd, hk2, rfl, hbi, hbdw, HRd, HFd, HQ⟩ := hrel
            have zi := hbi.size
            have hb5i := hb.trans (hbi.mono zr)
            have hb1i := hbx5.trans (hb5i.mono hbx5.size)
            have r4 := HR5.out.below hb5i hzx5 4 _ rfl
            have u4 := (hbi.cell (p := ⟨g, k * 5 + 4, none⟩) (by have := World.block_lt_of_cell? wo _ q4; exact this)).trans q4
            by_cases hlt2 : k2 < z.secs.length
            · obtain ⟨s, hs⟩ : ∃ s, d.secs[k2]? = some s := ⟨d.secs[k2]'(by have := HDN.out; omega), List.getElem?_eq_getElem (by have := HDN.out; omega)⟩
              obtain ⟨tt, ht⟩ : ∃ t, T[k2]? = some t := ⟨T[k2]'(by have := HTN.out; omega), List.getElem?_eq_getElem (by have := HTN.out; omega)⟩
              have os := OwnL.below HO1.out hb1i
              have ot := OwnL.below HP5.out hb5i
              have s0 := OwnL.at1 (j := 0) Sec.len os hs rfl
              have s1 := OwnL.at1 (j := 1) Sec.len os hs rfl
              have t0 := OwnL.at1 (j := 0) Sec.len ot ht rfl
              have t1 := OwnL.at1 (j := 1) Sec.len ot ht rfl
              simp only [Nat.add_zero] at s0 t0
              have gs0 := World.block_lt_of_cell? wr _ s0
              have gt0 := World.block_lt_of_cell? wr _ t0
              have gb0 := World.block_lt_of_cell? wr _ r4
              have HTK0 := Lib.hid (trP_succ ht hs)
              clear hs ht os ot
              by_cases hst : s.state = 1
              · have dst : (s.state == 1) = true := by simpa using hst
                have HTK : Hid (trP T d.secs (k2 + 1) = trP T d.secs k2 ++ [tt]) := Lib.hid (by rw [HTK0.out]; unfold trD1; rw [if_pos hst])
                obtain ⟨x, hx⟩ : ∃ x, x = tt := ⟨_, rfl⟩
                rw [← hx] at HTK t0 t1
                clear hx hst HTK0
                have W9B : Below wr.heap.size wr (wr.alloc (.cells #[.string x.data, .int .i64 x.state] 48)) := Below.alloc (Below.refl _ _) (Nat.le_refl _) _
                have hb9 : Below wo.heap.size wo (wr.alloc (.cells #[.string x.data, .int .i64 x.state] 48)) := hbi.alloc hbi.size _
                have HR9 := Lib.hid (HRd.out.below W9B hbdw)
                have HF9 := Lib.hid (frozen_below HFd.out W9B hbdw)
                have HQ9 := Lib.hid (OwnL.below HQ.out W9B)
                have hbd9 : bd < ((wr.alloc (.cells #[.string x.data, .int .i64 x.state] 48))).heap.size := Nat.lt_of_lt_of_le hbdw W9B.size
                have x0 : ((wr.alloc (.cells #[.string x.data, .int .i64 x.state] 48))).cell? ⟨wr.heap.size, 0, none⟩ = some (.string x.data) := by simp
                have x1 : ((wr.alloc (.cells #[.string x.data, .int .i64 x.state] 48))).cell? ⟨wr.heap.size, 1, none⟩ = some (.int .i64 x.state) := by simp
                clear HRd HFd HQ W9B
                go_upto_region 19 with (fail)
                generalize (wr.alloc (.cells #[.string x.data, .int .i64 x.state] 48)) = W11 at *
                have y4 := HR9.out 4 _ rfl
                have hl1q : (trP T d.secs k2).length + 1 ≤ 16777216 := by rw [trP_len]; omega
                have hbase : bd + 1 ≤ (W11.alloc (.cells #[.string x.data, .int .i64 x.state] 48)).heap.size := by simp; omega
                have hqb := fun q hq => World.ownsRow.lt HQ9.out q hq
                have HBA : Below W11.heap.size W11 (W11.alloc (.cells #[.string x.data, .int .i64 x.state] 48)) := Below.alloc (Below.refl _ _) (Nat.le_refl _) _
                have HRA := Lib.hid (HR9.out.below HBA hbd9)
                have HFA := Lib.hid (frozen_below HF9.out HBA hbd9)
                have hbA : Below wo.heap.size wo (W11.alloc (.cells #[.string x.data, .int .i64 x.state] 48)) := hb9.alloc hb9.size _
                have hbdA : bd < (W11.alloc (.cells #[.string x.data, .int .i64 x.state] 48)).heap.size := Nat.lt_of_lt_of_le hbd9 HBA.size
                go_wp2_with (at_builtin; refine wpList_app1 Sec.cells 2 Sec.len _ rfl _ _ _ rfl (bd + 1) 48 i0 (.agg #[.string .empty, .int .i64 0]) 24 Try.underlying37 hi hz0 hz1 hz2 rfl (by decide) _ (trP T d.secs k2) rfl (HQ9.out.alloc _) _ 1 x rfl ?_ (sec_one x) hl1q (by decide) hbase ?_; (· intro j u hu; match j, hu with | 0, hu => (simp [Sec.cells] at hu; subst hu; simp) | 1, hu => (simp [Sec.cells] at hu; subst hu; simp) | j + 2, hu => simp [Sec.cells] at hu); intro v12 w12 how12 hg12; obtain ⟨A12, n12, c12, rfl⟩ := own_slice how12; have HR12 := Lib.hid (HRA.out.grown hg12 hbdA (by intro e6; have := (hqb _ e6).1; omega)); have HF12 := Lib.hid (frozen_grown HFA.out hg12 hbdA (by intro e6; have := (hqb _ e6).1; omega)); have hb12 : Below wo.heap.size wo w12 := hbA.grown hg12 hbA.size (fun q hq => by have := (hqb q hq).1; omega); have HQ12 := Lib.hid how12; have t4 := HR12.out 4 _ rfl; have t5 := HF12.out 4; have z12 := hg12.size; clear how12 hg12)
                go_roundw
                case rel => exact ⟨k2 + 1, .slice A12 n12 c12, by omega, by go_num, Below.setCell hb12 hbdo _, by simp; omega, Lib.hid (HR12.out.set (o := 4) _ (by simp)), Lib.hid (fun o => (setCell_frozen _ _ _ _).trans (HF12.out o)), by rw [HTK.out]; exact Lib.hid (far_set HQ12.out (Nat.lt_succ_self bd))⟩
                case measure => simp [intOf]; omega
              · have dst : (s.state == 1) = false := by simpa using hst
                have HTK : Hid (trP T d.secs (k2 + 1) = trP T d.secs k2 ++ [s]) := Lib.hid (by rw [HTK0.out]; unfold trD1; rw [if_neg hst])
                obtain ⟨x, hx⟩ : ∃ x, x = s := ⟨_, rfl⟩
                rw [← hx] at HTK s0 s1 dst
                clear hx hst HTK0
                have W9B : Below wr.heap.size wr (wr.alloc (.cells #[.string x.data, .int .i64 x.state] 48)) := Below.alloc (Below.refl _ _) (Nat.le_refl _) _
                have hb9 : Below wo.heap.size wo (wr.alloc (.cells #[.string x.data, .int .i64 x.state] 48)) := hbi.alloc hbi.size _
                have HR9 := Lib.hid (HRd.out.below W9B hbdw)
                have HF9 := Lib.hid (frozen_below HFd.out W9B hbdw)
                have HQ9 := Lib.hid (OwnL.below HQ.out W9B)
                have hbd9 : bd < ((wr.alloc (.cells #[.string x.data, .int .i64 x.state] 48))).heap.size := Nat.lt_of_lt_of_le hbdw W9B.size
                have x0 : ((wr.alloc (.cells #[.string x.data, .int .i64 x.state] 48))).cell? ⟨wr.heap.size, 0, none⟩ = some (.string x.data) := by simp
                have x1 : ((wr.alloc (.cells #[.string x.data, .int .i64 x.state] 48))).cell? ⟨wr.heap.size, 1, none⟩ = some (.int .i64 x.state) := by simp
                clear HRd HFd HQ W9B
                go_upto_region 19 with (fail)
                generalize (wr.alloc (.cells #[.string x.data, .int .i64 x.state] 48)) = W11 at *
                have y4 := HR9.out 4 _ rfl
                have hl1q : (trP T d.secs k2).length + 1 ≤ 16777216 := by rw [trP_len]; omega
                have hbase : bd + 1 ≤ (W11.alloc (.cells #[.string x.data, .int .i64 x.state] 48)).heap.size := by simp; omega
                have hqb := fun q hq => World.ownsRow.lt HQ9.out q hq
                have HBA : Below W11.heap.size W11 (W11.alloc (.cells #[.string x.data, .int .i64 x.state] 48)) := Below.alloc (Below.refl _ _) (Nat.le_refl _) _
                have HRA := Lib.hid (HR9.out.below HBA hbd9)
                have HFA := Lib.hid (frozen_below HF9.out HBA hbd9)
                have hbA : Below wo.heap.size wo (W11.alloc (.cells #[.string x.data, .int .i64 x.state] 48)) := hb9.alloc hb9.size _
                have hbdA : bd < (W11.alloc (.cells #[.string x.data, .int .i64 x.state] 48)).heap.size := Nat.lt_of_lt_of_le hbd9 HBA.size
                go_wp2_with (at_builtin; refine wpList_app1 Sec.cells 2 Sec.len _ rfl _ _ _ rfl (bd + 1) 48 i0 (.agg #[.string .empty, .int .i64 0]) 24 Try.underlying37 hi hz0 hz1 hz2 rfl (by decide) _ (trP T d.secs k2) rfl (HQ9.out.alloc _) _ 1 x rfl ?_ (sec_one x) hl1q (by decide) hbase ?_; (· intro j u hu; match j, hu with | 0, hu => (simp [Sec.cells] at hu; subst hu; simp) | 1, hu => (simp [Sec.cells] at hu; subst hu; simp) | j + 2, hu => simp [Sec.cells] at hu); intro v12 w12 how12 hg12; obtain ⟨A12, n12, c12, rfl⟩ := own_slice how12; have HR12 := Lib.hid (HRA.out.grown hg12 hbdA (by intro e6; have := (hqb _ e6).1; omega)); have HF12 := Lib.hid (frozen_grown HFA.out hg12 hbdA (by intro e6; have := (hqb _ e6).1; omega)); have hb12 : Below wo.heap.size wo w12 := hbA.grown hg12 hbA.size (fun q hq => by have := (hqb q hq).1; omega); have HQ12 := Lib.hid how12; have t4 := HR12.out 4 _ rfl; have t5 := HF12.out 4; have z12 := hg12.size; clear how12 hg12)
                go_roundw
                case rel => exact ⟨k2 + 1, .slice A12 n12 c12, by omega, by go_num, Below.setCell hb12 hbdo _, by simp; omega, Lib.hid (HR12.out.set (o := 4) _ (by simp)), Lib.hid (fun o => (setCell_frozen _ _ _ _).trans (HF12.out o)), by rw [HTK.out]; exact Lib.hid (far_set HQ12.out (Nat.lt_succ_self bd))⟩
                case measure => simp [intOf]; omega
            · obtain rfl : k2 = z.secs.length := by omega
              obtain ⟨Aq, nq, cq, rfl⟩ := own_slice HQ.out
              have HPb : Hid (pl.length + 1 ≤ 16777216) := Lib.hid (by have := HPL.out; omega)
              obtain ⟨y0, y1, y2, y3, y4⟩ : wr.cell? ⟨bd, 0, none⟩ = some (.int .i64 z.cyl) ∧ wr.cell? ⟨bd, 1, none⟩ = some (.int .i64 z.heads) ∧ wr.cell? ⟨bd, 2, none⟩ = some (.int .i64 z.per) ∧ wr.cell? ⟨bd, 3, none⟩ = some (.int .i64 z.size) ∧ wr.cell? ⟨bd, 4, none⟩ = some (.slice Aq nq cq) := ⟨HRd.out 0 _ rfl, HRd.out 1 _ rfl, HRd.out 2 _ rfl, HRd.out 3 _ rfl, HRd.out 4 _ rfl⟩
              have hdj : Dj u8 (.slice Aq nq cq) := fun b h1 h2 => by
                have q1 := (World.ownsRow.lt HU.out.o b h1).2
                have q2 := (World.ownsRow.lt HQ.out b h2).1
                omega
              have HDJ := Lib.hid hdj
              have hBA : Below wr.heap.size wr (wr.alloc (.cells #[.int .i64 z.cyl, .int .i64 z.heads, .int .i64 z.per, .int .i64 z.size, .slice Aq nq cq] 39)) := Below.alloc (Below.refl _ _) (Nat.le_refl _) _
              have hbA : Below wo.heap.size wo (wr.alloc (.cells #[.int .i64 z.cyl, .int .i64 z.heads, .int .i64 z.per, .int .i64 z.size, .slice Aq nq cq] 39)) := hbi.alloc hbi.size _
              have hbase : bt + 1 ≤ (wr.alloc (.cells #[.int .i64 z.cyl, .int .i64 z.heads, .int .i64 z.per, .int .i64 z.size, .slice Aq nq cq] 39)).heap.size := by have := hbA.size; omega
              have HU9 := Lib.hid (OutL.chg HU.out (Chg.of_below (B := 0) (E := 0) hbA) (Nat.zero_le _))
              have HQ9 : Hid (SecOwn (bt + 1) (wr.alloc (.cells #[.int .i64 z.cyl, .int .i64 z.heads, .int .i64 z.per, .int .i64 z.size, .slice Aq nq cq] 39)) (.slice Aq nq cq) (⟨z.cyl, z.heads, z.per, z.size, trP T d.secs z.secs.length⟩ : Dsc).secs) := Lib.hid (OwnL.base (OwnL.alloc HQ.out _) (by omega))
              have HON := Lib.hid (dpc_one (p := ⟨z.cyl, z.heads, z.per, z.size, trP T d.secs z.secs.length⟩) HQ9.out)
              have HRW : Hid (Row (wr.alloc (.cells #[.int .i64 z.cyl, .int .i64 z.heads, .int .i64 z.per, .int .i64 z.size, .slice Aq nq cq] 39)) wr.heap.size [.int .i64 z.cyl, .int .i64 z.heads, .int .i64 z.per, .int .i64 z.size, .slice Aq nq cq]) := Lib.hid (Row.alloc wr _ _)
              have hob2 : ∀ b, u8.ownBlock = some b → w5.heap.size ≤ b := hob
              clear hdj q4 u4
              go_wp2_with (at_builtin; refine wpList_app1at dpc 5 dpc_len _ rfl _ _ _ rfl (bt + 1) 39 i1 (.agg #[.int .i64 0, .int .i64 0, .int .i64 0, .int .i64 0, .slice none 0 0]) 56 Try.underlying25 ji jz0 jz1 jz2 rfl (by decide) _ pl rfl HU9.out.o _ 1 (⟨z.cyl, z.heads, z.per, z.size, trP T d.secs z.secs.length⟩, .slice Aq nq cq) rfl ?_ HON.out HPb.out (by decide) hbase ?_; (· intro j u hu; exact HRW.out j u hu); intro v9 w9 how9 hg9 hbl9)
              go_roundw
              case rel => exact ⟨k + 1, pl ++ [(⟨z.cyl, z.heads, z.per, z.size, trP T d.secs z.secs.length⟩, .slice Aq nq cq)], by omega, by go_num, Lib.hid (by have := HPL.out; simp; omega), (hb.trans (hbA.mono zr)).grown hg9 (by have := hbA.size; omega) (fun q hq => by exact hob2 q hq), Lib.hid (HU9.out.snoc how9 hg9 hbl9 HQ9.out HDJ.out), fun b hb' => by
                rcases hbl9 with e | e
                · exact hob2 b (e ▸ hb')
                · rw [hb'] at e; injection e with e; have := hbA.size; omega, Lib.hid (fun p hp => by
                rcases List.mem_append.1 hp with hp | hp
                · exact HD.out p hp
                · obtain rfl : p = (⟨z.cyl, z.heads, z.per, z.size, trP T d.secs z.secs.length⟩, .slice Aq nq cq) := by simpa using hp
                  exact ⟨rfl, trP_len _ _ _, d, HDM.out, rfl⟩)⟩
              case measure => simp [intOf]; omega
        · obtain rfl : k = l.length := by omega
          have hK := truth_k (L := pl.map Prod.fst) HZM.out HGZ.out.1 HGZ.out.2 HSO.out HLEN.out (by rw [List.length_map]; have := HPL.out; omega) (by rw [List.length_map]; have := HPL.out; omega) (fun p hp => by
            obtain ⟨q, hq, rfl⟩ := List.mem_map.1 hp
            obtain ⟨a1, a2, a3⟩ := HD.out q hq
            exact ⟨a1, a2, by rw [HTT.out]; exact a3⟩)
          rw [HTT.out] at hK
          have HKK := Lib.hid hK
          have R2 := HR2b.out.below hb15 z1
          have F2 := frozen_below HF2b.out hb15 z1
          have RT := HR5.out.below hb hzx5
          have OT := Lib.hid (OwnL.below HP5.out hb)
          obtain ⟨x0, x1, x2, x3, x4⟩ : wr.cell? ⟨bt, 0, none⟩ = some (.int .i64 z.cyl) ∧ wr.cell? ⟨bt, 1, none⟩ = some (.int .i64 z.heads) ∧ wr.cell? ⟨bt, 2, none⟩ = some (.int .i64 z.per) ∧ wr.cell? ⟨bt, 3, none⟩ = some (.int .i64 z.size) ∧ wr.cell? ⟨bt, 4, none⟩ = some (.slice (some ⟨gt, 0, none⟩) z.secs.length ct) := ⟨RT 0 _ rfl, RT 1 _ rfl, RT 2 _ rfl, RT 3 _ rfl, RT 4 _ rfl⟩
          have y0 := R2 0 _ rfl
          have y1 := R2 1 _ rfl
          have y2 := R2 2 _ rfl
          have y3 := R2 3 _ rfl
          have y4 := R2 4 _ rfl
          have hBw := Lib.hid (HB1.out.trans (hb15.mono (by omega)))
          obtain ⟨Ao, no, co, rfl⟩ := own_slice HU.out.o
          clear hK RT
          go_wp2
          have Z2 := R2.setL (dscL z (.slice (some ⟨gt, 0, none⟩) z.secs.length ct)) (by simp)
          have B2 : Below w.heap.size w (setL wr w.heap.size 0 (dscL z (.slice (some ⟨gt, 0, none⟩) z.secs.length ct))) := setL_below (Nat.le_refl _) _ hBw.out
          have O2 := setL_far (g := w.heap.size) (o := 0) (by omega) (dscL z (.slice (some ⟨gt, 0, none⟩) z.secs.length ct)) OT.out
          have U2 := OutL.setFar (g := w.heap.size) (o := 0) HU.out (by omega) (dscL z (.slice (some ⟨gt, 0, none⟩) z.secs.length ct))
          show bodyPost _ _ _ _ _ (setL wr w.heap.size 0 (dscL z (.slice (some ⟨gt, 0, none⟩) z.secs.length ct)))
          clear x0 x1 x2 x3 x4 y0 y1 y2 y3 y4 R2 F2 hBw OT HU
          generalize (setL wr w.heap.size 0 (dscL z (.slice (some ⟨gt, 0, none⟩) z.secs.length ct))) = W at *
          have s0 := Z2 0 _ rfl
          have s1 := Z2 1 _ rfl
          have s2 := Z2 2 _ rfl
          have s3 := Z2 3 _ rfl
          have s4 := Z2 4 _ rfl
          exact bodyPost_ret (v := .tuple #[dscV z (.slice (some ⟨gt, 0, none⟩) z.secs.length ct), .slice Ao no co]) (by simp [results, Try.results61, go_sem, s0, s1, s2, s3, s4]; try done) rfl ⟨⟨z.cyl, z.heads, z.per, z.size, T⟩, _, _, pl.map Prod.fst, rfl, OwnL.base O2 (by omega), DscOwn.base (OutL.own U2) (by omega), HKK.out, B2⟩
end Go.Proofs.Ytignjjkldmninaa
