/- The laws' own helpers over discs: copies whose parts stand apart, marks. Lists of discs as a representation. -/
import Derived.Test.YtfcdienphillnaaGreatLr03
import Derived.Test.YtfcdienphillnaaGreatLr05
namespace Go.Proofs.YtfcdienphillnaaGreat
set_option linter.unusedVariables false
set_option linter.unusedSimpArgs false
open Go.RowKit
/-- the sectors of later discs stand in later blocks -/
def Apart (pl : List (Dsc × Value)) : Prop := ∀ (j j' : Nat) (p p' : Dsc × Value) (b b' : Nat), j < j' → pl[j]? = some p → pl[j']? = some p' → p.2.ownBlock = some b → p'.2.ownBlock = some b' → b < b'
theorem Apart.nil : Apart [] := fun j j' p p' b b' _ h => by simp at h
theorem Apart.snoc {pl : List (Dsc × Value)} {e : Dsc} {bv : Value} {n : Nat} (h : Apart pl) (h1 : ∀ (j : Nat) (p : Dsc × Value), pl[j]? = some p → ∀ b, p.2.ownBlock = some b → b < n) (h2 : ∀ b, bv.ownBlock = some b → n ≤ b) : Apart (pl ++ [(e, bv)]) := by
  intro j j' p p' b b' hj hp hp' hb hb'
  have hl' := (List.getElem?_eq_some_iff.1 hp').1
  simp at hl'
  rw [List.getElem?_append_left (by omega)] at hp
  by_cases hj' : j' < pl.length
  · rw [List.getElem?_append_left hj'] at hp'
    exact h j j' p p' b b' hj hp hp' hb hb'
  · rw [List.getElem?_append_right (by omega), show j' - pl.length = 0 by omega] at hp'
    obtain rfl : (e, bv) = p' := by simpa using hp'
    exact Nat.lt_of_lt_of_le (h1 j p hp b hb) (h2 b' hb')
/-- discs that the call has made, each part in a block of its own -/
def DscTree (B : Nat) (w : World) (v : Value) (l : List Dsc) : Prop := ∃ A c, v = .slice A l.length c ∧ (l = [] ∨ ∃ (g : Nat) (pl : List (Dsc × Value)), A = some ⟨g, 0, none⟩ ∧ B ≤ g ∧ g < w.heap.size ∧ pl.map Prod.fst = l ∧ w.ownsRow B 43 5 (.slice (some ⟨g, 0, none⟩) l.length c) l.length (flat dpc pl) ∧ (∀ (j : Nat) (p : Dsc × Value), pl[j]? = some p → SecOwn (g + 1) w p.2 p.1.secs) ∧ Apart pl)
theorem DscTree.own {B : Nat} {w : World} {v : Value} {l : List Dsc} (h : DscTree B w v l) : DscOwn B w v l := by
  obtain ⟨A, c, rfl, h⟩ := h
  refine ⟨A, c, rfl, ?_⟩
  rcases h with h | ⟨g, pl, rfl, hB, hg, rfl, how, hs, _⟩
  · exact .inl h
  · refine .inr ⟨g, rfl, hB, hg, fun k e hk => ?_⟩
    rw [List.getElem?_map] at hk
    obtain ⟨p, hp, rfl⟩ := Option.map_eq_some_iff.1 hk
    have hkl := (List.getElem?_eq_some_iff.1 hp).1
    refine ⟨p.2, OwnL.base (hs k p hp) (by omega), fun j u hu => ?_⟩
    have hj5 : j < 5 := by have := (List.getElem?_eq_some_iff.1 hu).1; simpa [Dsc.ints] using this
    exact (how.cellAt (k * 5 + j) (by simp; omega)).trans ((flat_get dpc_len hp (j := j) hj5).trans hu)
theorem DscTree.below {B : Nat} {w w' : World} {v : Value} {l : List Dsc} (h : DscTree B w v l) (hb : Below w.heap.size w w') : DscTree B w' v l := by
  obtain ⟨A, c, rfl, h⟩ := h
  refine ⟨A, c, rfl, ?_⟩
  rcases h with h | ⟨g, pl, rfl, hB, hg, hm, how, hs, ha⟩
  · exact .inl h
  · exact .inr ⟨g, pl, rfl, hB, Nat.lt_of_lt_of_le hg hb.size, hm, how.kept (grown_of_below hb none) (by simp [Value.ownBlock]), fun j p hp => OwnL.below (hs j p hp) hb, ha⟩
set_option maxHeartbeats 4000000 in
theorem toDscT (l : List Dsc) (v : Value) (w : World) (hr : DscIn w v l) (hn : l.length ≤ 1048576) (hb : ∀ e ∈ l, e.secs.length ≤ 1048576) :
    Calls Tryz.prog 45 #[v] w fun e w' => ∃ v', e = .returned v' ∧ DscTree w.heap.size w' v' l ∧ Below w.heap.size w w' := by
  obtain ⟨i0, hi, hz0, hz1, hz2⟩ := info_parts dpc_info
  obtain ⟨A, c, rfl, hmax, hr⟩ := hr
  rcases hr with rfl | ⟨b, o, rfl, hlt, hc⟩
  · go_enter Tryz.func45, Tryz.ntmps45
    go_wp2_with (at_make; refine wpList_make_full _ rfl _ _ _ rfl w.heap.size 43 i0 (.agg #[.int .i64 0, .int .i64 0, .int .i64 0, .int .i64 0, .slice none 0 0]) 5 Tryz.underlying37 hi hz0 hz1 .i64 .i64 _ _ 0 rfl rfl rfl rfl (by omega) (by unfold maxLen; omega) (Nat.le_refl _) ?_; intro w1 hown hgrow)
    refine wp_loop_once ?_
    go_wp2
    go_ret
    exact ⟨_, rfl, ⟨_, _, rfl, .inl rfl⟩, (Below.refl _ _).grown hgrow (Nat.le_refl _) (by simp)⟩
  · have HC := Lib.hid hc
    clear hc
    go_enter Tryz.func45, Tryz.ntmps45
    go_wp2_with (at_make; refine wpList_make_full _ rfl _ _ _ rfl w.heap.size 43 i0 (.agg #[.int .i64 0, .int .i64 0, .int .i64 0, .int .i64 0, .slice none 0 0]) 5 Tryz.underlying37 hi hz0 hz1 .i64 .i64 _ _ l.length rfl rfl rfl rfl (by rw [hz2]; omega) (by unfold maxLen; omega) (Nat.le_refl _) ?_; intro w1 hown hgrow)
    have hb0 : Below w.heap.size w w1 := (Below.refl _ _).grown hgrow (Nat.le_refl _) (by simp)
    rw [made_flat (f := dpc) dpc_len (by omega) dz (Value.agg #[.int .i64 0, .int .i64 0, .int .i64 0, .int .i64 0, .slice none 0 0]).cells rfl] at hown
    clear hgrow
    go_loopw [4] (fun i wr => ∃ (k : Nat) (pl : List (Dsc × Value)), k ≤ l.length ∧ i = .int .i64 k ∧ pl.length = k ∧ Below w.heap.size w wr ∧ (∀ (j : Nat) (e : Dsc), j < k → l[j]? = some e → ∃ bv, pl[j]? = some (e, bv) ∧ SecOwn (w.heap.size + 1) wr bv e.secs) ∧ Apart pl ∧ wr.ownsRow w.heap.size 43 5 (.slice (some ⟨w.heap.size, 0, none⟩) l.length l.length) l.length (flat dpc (pl ++ List.replicate (l.length - k) dz))) (fun i _ => l.length - (intOf i).toNat)
    case atStart => exact ⟨0, [], by omega, rfl, rfl, hb0, fun j e hj => by omega, Apart.nil, by simpa using hown⟩
    case round =>
      obtain ⟨k, pl, hk, rfl, hpl, hbw, hin, hap, how⟩ := hrel
      clear hown hb0
      by_cases hltk : k < l.length
      · obtain ⟨e, he⟩ : ∃ e, l[k]? = some e := ⟨l[k]'(by omega), List.getElem?_eq_getElem (by omega)⟩
        have hz : w.heap.size ≤ wr.heap.size := hbw.size
        have hg : w.heap.size < wr.heap.size := (how.lt _ rfl).2
        obtain ⟨bv, h1, h2⟩ := HC.out k e he
        have p0 := (hbw.cell (p := ⟨b, _, none⟩) hlt).trans (h2 0 _ rfl)
        have p1 := (hbw.cell (p := ⟨b, _, none⟩) hlt).trans (h2 1 _ rfl)
        have p2 := (hbw.cell (p := ⟨b, _, none⟩) hlt).trans (h2 2 _ rfl)
        have p3 := (hbw.cell (p := ⟨b, _, none⟩) hlt).trans (h2 3 _ rfl)
        have p4 := (hbw.cell (p := ⟨b, _, none⟩) hlt).trans (h2 4 _ rfl)
        simp only [Nat.add_zero] at p0
        have ht := toDsc e bv wr (h1.below hbw) (hb e (List.mem_of_getElem? he))
        obtain ⟨⟨A2, c2, rfl, _, _⟩, _⟩ := h1
        have HO := Lib.hid how
        have HIN := Lib.hid hin
        have HAP := Lib.hid hap
        have HLB := Lib.hid (fun (j : Nat) (p : Dsc × Value) (hp : pl[j]? = some p) => show ∃ B', SecOwn B' wr p.2 p.1.secs from by
          have hj := (List.getElem?_eq_some_iff.1 hp).1
          obtain ⟨bv', h1', h2'⟩ := hin j (l[j]'(by omega)) (by omega) (List.getElem?_eq_getElem (by omega))
          rw [hp] at h1'
          obtain rfl : p = _ := by simpa using h1'
          exact ⟨_, h2'⟩)
        have HE := Lib.hid he
        have hgk : (pl ++ List.replicate (l.length - k) dz)[k]? = some dz := by
          rw [List.getElem?_append_right (by omega), hpl, Nat.sub_self, List.getElem?_replicate, if_pos (by omega)]
        have HGK := Lib.hid hgk
        clear how hin hap h2 he hgk
        go_wp2_with (fail)
        refine ht.mono ?_; rintro e' w1 ⟨A3, c3, rfl, o3, hb1⟩
        have HO1 := Lib.hid (World.ownsRow.kept HO.out (grown_of_below hb1 none) (by simp [Value.ownBlock]))
        have Q := fun (j : Nat) (hj : j < 5) => (HO1.out.cellAt (k * 5 + j) (by omega)).trans (flat_get dpc_len HGK.out (j := j) hj)
        have q0 : w1.cell? ⟨w.heap.size, k * 5, none⟩ = some (.int .i64 0) := Q 0 (by omega)
        have q1 : w1.cell? ⟨w.heap.size, k * 5 + 1, none⟩ = some (.int .i64 0) := Q 1 (by omega)
        have q2 : w1.cell? ⟨w.heap.size, k * 5 + 2, none⟩ = some (.int .i64 0) := Q 2 (by omega)
        have q3 : w1.cell? ⟨w.heap.size, k * 5 + 3, none⟩ = some (.int .i64 0) := Q 3 (by omega)
        have q4 : w1.cell? ⟨w.heap.size, k * 5 + 4, none⟩ = some (.slice none 0 0) := Q 4 (by omega)
        have z0 := fun j => HO1.out.frozenAt j
        have hz1' := hb1.size
        have hfl := flat_len dpc_len (pl ++ List.replicate (l.length - k) dz)
        have hll : (pl ++ List.replicate (l.length - k) dz).length = l.length := by simp; omega
        have HO2 := Lib.hid (own_put5 (α := Dsc × Value) (f := dpc) (o := k * 5) HO1.out (.int .i64 e.cyl) (.int .i64 e.heads) (.int .i64 e.per) (.int .i64 e.size) (.slice A3 e.secs.length c3) (by rw [hfl, hll]; omega))
        have hput := flat_put dpc_len (pl ++ List.replicate (l.length - k) dz) k ((e, .slice A3 e.secs.length c3) : Dsc × Value) (by rw [hll]; exact hltk)
        have hset : (pl ++ List.replicate (l.length - k) dz).set k ((e, .slice A3 e.secs.length c3) : Dsc × Value) = (pl ++ [(e, .slice A3 e.secs.length c3)]) ++ List.replicate (l.length - (k + 1)) dz := by
          rw [List.set_append_right _ _ (by omega), hpl, Nat.sub_self, show l.length - k = (l.length - (k + 1)) + 1 by omega, List.replicate_succ, List.set_cons_zero, List.append_assoc]; rfl
        have HP := Lib.hid (hput.trans (congrArg (flat dpc) hset))
        have HNEW : Hid (∀ (j : Nat) (e'' : Dsc), j < k + 1 → l[j]? = some e'' → ∃ bv, (pl ++ [(e, .slice A3 e.secs.length c3)])[j]? = some (e'', bv) ∧ SecOwn (w.heap.size + 1) (set5 w1 w.heap.size (k * 5) (.int .i64 e.cyl) (.int .i64 e.heads) (.int .i64 e.per) (.int .i64 e.size) (.slice A3 e.secs.length c3)) bv e''.secs) := Lib.hid (fun j e'' hj hl => by
          by_cases hjk : j < k
          · obtain ⟨bv, h1, h2⟩ := HIN.out j e'' hjk hl
            exact ⟨bv, by rw [List.getElem?_append_left (by omega)]; exact h1, far_set5 (OwnL.below h2 hb1) (by omega)⟩
          · obtain rfl : j = k := by omega
            have hee := HE.out
            rw [hl] at hee
            obtain rfl : e'' = e := by simpa using hee
            exact ⟨_, by rw [List.getElem?_append_right (by omega), hpl, Nat.sub_self]; rfl, far_set5 (OwnL.base o3 (by omega)) (by omega)⟩)
        have HAN := Lib.hid (HAP.out.snoc (e := e) (bv := .slice A3 e.secs.length c3) (n := wr.heap.size) (fun j p hp b hb => by obtain ⟨B', h'⟩ := HLB.out j p hp; exact (h'.lt b hb).2) (fun b hb => (o3.lt b hb).1))
        have hle : w.heap.size ≤ w.heap.size := Nat.le_refl _
        have HB := Lib.hid (Below.setCell (Below.setCell (Below.setCell (Below.setCell (Below.setCell (hbw.trans (hb1.mono hz)) (p := ⟨w.heap.size, k * 5, none⟩) hle (.int .i64 e.cyl)) (p := ⟨w.heap.size, k * 5 + 1, none⟩) hle (.int .i64 e.heads)) (p := ⟨w.heap.size, k * 5 + 2, none⟩) hle (.int .i64 e.per)) (p := ⟨w.heap.size, k * 5 + 3, none⟩) hle (.int .i64 e.size)) (p := ⟨w.heap.size, k * 5 + 4, none⟩) hle (.slice A3 e.secs.length c3))
        clear hfl hll hput hset ht Q
        go_wp2
        go_roundw
        case rel => exact ⟨k + 1, pl ++ [(e, .slice A3 e.secs.length c3)], by omega, by go_num, by simp; omega, HB.out, HNEW.out, HAN.out, by rw [← HP.out]; exact HO2.out⟩
        case measure => simp [intOf]; omega
      · go_wp2
        go_ret
        obtain rfl : k = l.length := by omega
        have hmap : pl.map Prod.fst = l := by
          refine List.ext_getElem? fun j => ?_
          by_cases hj : j < l.length
          · obtain ⟨bv, h1, _⟩ := hin j (l[j]'hj) hj (List.getElem?_eq_getElem hj)
            rw [List.getElem?_map, h1, List.getElem?_eq_getElem hj]; rfl
          · rw [List.getElem?_eq_none (by simp; omega), List.getElem?_eq_none (by omega)]
        refine ⟨_, rfl, ⟨_, _, rfl, .inr ⟨w.heap.size, pl, rfl, Nat.le_refl _, (how.lt _ rfl).2, hmap, by simpa using how, fun j p hp => ?_, hap⟩⟩, hbw⟩
        have hj := (List.getElem?_eq_some_iff.1 hp).1
        obtain ⟨bv', h1', h2'⟩ := hin j (l[j]'(by omega)) (by omega) (List.getElem?_eq_getElem (by omega))
        rw [hp] at h1'
        obtain rfl : p = _ := by simpa using h1'
        exact h2'
theorem row_blocks {B z n : Nat} {e : TypeId} {w w' : World} {v : Value} {xs : List Value} (h : w.ownsRow B e z v n xs) (hb : ∀ k, B ≤ k → k < w.heap.size → w'.heap[k]? = w.heap[k]?) : w'.ownsRow B e z v n xs := by
  refine ⟨h.1, ?_⟩
  rcases h.2 with hn | ⟨g, cap, cur, rfl, hbg, hh, rest⟩
  · exact .inl hn
  · exact .inr ⟨g, cap, cur, rfl, hbg, (hb g hbg (Array.getElem?_eq_some_iff.1 hh).1).trans hh, rest⟩
theorem DscTree.blocks {B : Nat} {w w' : World} {v : Value} {l : List Dsc} (h : DscTree B w v l) (hz : w.heap.size ≤ w'.heap.size) (hb : ∀ k, B ≤ k → k < w.heap.size → w'.heap[k]? = w.heap[k]?) : DscTree B w' v l := by
  obtain ⟨A, c, rfl, h⟩ := h
  refine ⟨A, c, rfl, ?_⟩
  rcases h with h | ⟨g, pl, rfl, hB, hg, hm, how, hs, ha⟩
  · exact .inl h
  · exact .inr ⟨g, pl, rfl, hB, Nat.lt_of_lt_of_le hg hz, hm, row_blocks how hb, fun j p hp => row_blocks (hs j p hp) (fun k hk => hb k (by omega)), ha⟩
def Dsc.cnt (d : Dsc) : Nat := 4 + d.secs.length * 2
def Dsc.cnts (l : List Dsc) : Nat := (l.map Dsc.cnt).foldr (· + ·) 0
theorem Dsc.cnts_drop {l : List Dsc} {k : Nat} {e : Dsc} (he : l[k]? = some e) : Dsc.cnts (l.drop k) = e.cnt + Dsc.cnts (l.drop (k + 1)) := by
  obtain ⟨h, rfl⟩ := List.getElem?_eq_some_iff.1 he
  rw [List.drop_eq_getElem_cons h]; rfl
theorem Dsc.cnts_le (l : List Dsc) : Dsc.cnts l ≤ 4 * (l.length + Dsc.wts l) := by
  induction l with
  | nil => exact Nat.le_refl _
  | cons a l ih =>
    have h1 : Dsc.cnts (a :: l) = a.cnt + Dsc.cnts l := rfl
    have h2 : Dsc.wts (a :: l) = a.wt + Dsc.wts l := rfl
    have h3 : a.secs.length ≤ a.wt := Nat.le_add_right _ _
    have h4 : a.cnt = 4 + a.secs.length * 2 := rfl
    simp only [List.length_cons]; omega
theorem putAt_get {xs : List Value} {o j : Nat} {cs : List Value} (ho : o + cs.length ≤ xs.length) (hj : o + cs.length ≤ j) : (putAt xs o cs)[j]? = xs[j]? := by
  unfold putAt
  rw [List.getElem?_append_right (by simp; omega), List.getElem?_drop]
  congr 1; simp; omega
abbrev set4 (w : World) (g o : Nat) (a b c d : Value) : World := (((w.setCell ⟨g, o, none⟩ a).setCell ⟨g, o + 1, none⟩ b).setCell ⟨g, o + 2, none⟩ c).setCell ⟨g, o + 3, none⟩ d
set_option maxRecDepth 20000 in
set_option maxHeartbeats 4000000 in
theorem markDscS (l : List Dsc) (v : Value) (k0 B : Nat) (w0 w : World) (h : DscTree B w0 v l) (hz : w0.heap.size ≤ w.heap.size) (hb : ∀ k, B ≤ k → k < w0.heap.size → w.heap[k]? = w0.heap[k]?) (hn : l.length + Dsc.wts l ≤ 1048576) (h0 : 1 ≤ k0) (hk0 : k0 ≤ 33554432) :
    Calls Tryz.prog 64 #[v, .int .i64 k0] w fun e w' => e = .returned (.int .i64 ((k0 + Dsc.cnts l : Nat) : Int)) ∧ Chg B w0.heap.size w w' := by
  have hcl := Dsc.cnts_le l
  have hE : ∀ (A : Option Addr) (c : Nat), v = .slice A l.length c → l = [] ∨ ∃ (g : Nat) (pl : List (Dsc × Value)), A = some ⟨g, 0, none⟩ ∧ B ≤ g ∧ g < w0.heap.size ∧ pl.map Prod.fst = l ∧ w.ownsRow B 43 5 (.slice (some ⟨g, 0, none⟩) l.length c) l.length (flat dpc pl) ∧ (∀ (j : Nat) (p : Dsc × Value), pl[j]? = some p → SecOwn (g + 1) w p.2 p.1.secs ∧ ∀ b, p.2.ownBlock = some b → b < w0.heap.size) ∧ Apart pl := fun A c hv => by
    obtain ⟨A', c', hv', h⟩ := h
    rw [hv] at hv'
    obtain ⟨rfl, rfl⟩ : A = A' ∧ c = c' := by simpa using hv'
    rcases h with h | ⟨g, pl, rfl, hB, hg, hm, how, hs, ha⟩
    · exact .inl h
    · exact .inr ⟨g, pl, rfl, hB, hg, hm, row_blocks how hb, fun j p hp => ⟨row_blocks (hs j p hp) (fun k hk => hb k (by omega)), fun b hb' => ((hs j p hp).lt b hb').2⟩, ha⟩
  obtain ⟨A, c, rfl, _⟩ := h
  rcases hE A c rfl with rfl | ⟨g, pl, rfl, hBg, hg, hm, how, hs, hap⟩
  · go_enter Tryz.func64, Tryz.ntmps64
    go_wp2
    refine wp_loop_once ?_
    go_wp2
    go_ret
    exact ⟨by simp [Dsc.cnts], Chg.of_below (Below.refl _ _)⟩
  · have HS := Lib.hid hs
    have HAP := Lib.hid hap
    have hpl : pl.length = l.length := by rw [← hm, List.length_map]
    have HM := Lib.hid hm
    clear hs hap hE hm hb
    go_enter Tryz.func64, Tryz.ntmps64
    go_wp2
    go_loopw [5, 1] (fun i m wr => ∃ (k x : Nat) (xs : List Value), k ≤ l.length ∧ i = .int .i64 k ∧ m = .int .i64 (x : Int) ∧ 1 ≤ x ∧ Hid (k0 + Dsc.cnts l = x + Dsc.cnts (l.drop k)) ∧ Chg B w0.heap.size w wr ∧ wr.ownsRow B 43 5 (.slice (some ⟨g, 0, none⟩) l.length c) l.length xs ∧ (∀ j, k * 5 ≤ j → xs[j]? = (flat dpc pl)[j]?) ∧ (∀ (j : Nat) (p : Dsc × Value), k ≤ j → pl[j]? = some p → SecOwn (g + 1) wr p.2 p.1.secs)) (fun i _ _ => l.length - (intOf i).toNat)
    case atStart => exact ⟨0, k0, _, by omega, rfl, rfl, h0, Lib.hid rfl, Chg.of_below (Below.refl _ _), how, fun _ _ => rfl, fun j p _ hp => (HS.out j p hp).1⟩
    case round =>
      obtain ⟨k, x, xs, hk, rfl, rfl, hx, HK, hc, hox, hxs, hss⟩ := hrel
      by_cases hltk : k < l.length
      · obtain ⟨p, hp⟩ : ∃ p, pl[k]? = some p := ⟨pl[k]'(by omega), List.getElem?_eq_getElem (by omega)⟩
        obtain ⟨e, bv⟩ := p
        have he : l[k]? = some e := by rw [← HM.out, List.getElem?_map, hp]; rfl
        have HD := Lib.hid (Dsc.cnts_drop he)
        have hxl : xs.length = l.length * 5 := hox.1
        have hel : e.cnt = 4 + e.secs.length * 2 := rfl
        have hx2 : x + e.cnt ≤ k0 + Dsc.cnts l := by have := HK.out; have := HD.out; omega
        have Q := fun (j : Nat) (hj : j < 5) => (hox.cellAt (k * 5 + j) (by omega)).trans ((hxs (k * 5 + j) (by omega)).trans (flat_get dpc_len hp (j := j) hj))
        have q0 : wr.cell? ⟨g, k * 5, none⟩ = some (.int .i64 e.cyl) := Q 0 (by omega)
        have q1 : wr.cell? ⟨g, k * 5 + 1, none⟩ = some (.int .i64 e.heads) := Q 1 (by omega)
        have q2 : wr.cell? ⟨g, k * 5 + 2, none⟩ = some (.int .i64 e.per) := Q 2 (by omega)
        have q3 : wr.cell? ⟨g, k * 5 + 3, none⟩ = some (.int .i64 e.size) := Q 3 (by omega)
        have q4 : wr.cell? ⟨g, k * 5 + 4, none⟩ = some bv := Q 4 (by omega)
        have z0 := fun j => hox.frozenAt j
        have o1 : SecOwn (g + 1) wr bv e.secs := hss k (e, bv) (Nat.le_refl _) hp
        have hw1 := Dsc.wts_le (List.mem_of_getElem? he)
        have hw2 : e.secs.length ≤ e.wt := Nat.le_add_right _ _
        have HF := Lib.hid (fun (j : Nat) (p : Dsc × Value) (hj : k ≤ j) (hp : pl[j]? = some p) (a b c d : Value) => far_set (g := g) (o := k * 5 + 3) (u := d) (far_set (g := g) (o := k * 5 + 2) (u := c) (far_set (g := g) (o := k * 5 + 1) (u := b) (far_set (g := g) (o := k * 5) (u := a) (hss j p hj hp) (by omega)) (by omega)) (by omega)) (by omega))
        have HR := Lib.hid (own_put4 (o := k * 5) hox (.int .i64 (x : Int)) (.int .i64 ((x + 1 : Nat) : Int)) (.int .i64 ((x + 2 : Nat) : Int)) (.int .i64 ((x + 3 : Nat) : Int)) (by omega))
        have HG := Lib.hid (gset (gset (gset (gset (World.grownBy.refl wr (some g)) (k * 5) (.int .i64 (x : Int))) (k * 5 + 1) (.int .i64 ((x + 1 : Nat) : Int))) (k * 5 + 2) (.int .i64 ((x + 2 : Nat) : Int))) (k * 5 + 3) (.int .i64 ((x + 3 : Nat) : Int)))
        have HMK := Lib.hid (markSectorS e.secs bv (x + 4) (g + 1) _ (HF.out k (e, bv) (Nat.le_refl _) hp (.int .i64 (x : Int)) (.int .i64 ((x + 1 : Nat) : Int)) (.int .i64 ((x + 2 : Nat) : Int)) (.int .i64 ((x + 3 : Nat) : Int))) (by omega) (by omega) (by omega))
        have hbv := fun b (hb : bv.ownBlock = some b) => o1.lt b hb
        have HPK := Lib.hid hp
        have HXS := Lib.hid hxs
        obtain ⟨A2, c2, rfl, _⟩ := OwnL.shape o1
        clear Q hox hxs hss o1 he hp
        go_wp2_with (fail)
        refine HMK.out.mono ?_; rintro e' w1 ⟨rfl, o2, hg2⟩
        go_wp2
        go_roundw
        case rel =>
          refine ⟨k + 1, x + e.cnt, putAt xs (k * 5) [.int .i64 (x : Int), .int .i64 ((x + 1 : Nat) : Int), .int .i64 ((x + 2 : Nat) : Int), .int .i64 ((x + 3 : Nat) : Int)], by omega, by go_num, by congr 1; omega, by omega, Lib.hid (by have := HK.out; have := HD.out; omega), (hc.trans (Chg.of_grown HG.out (fun g' hg' => by injection hg' with hg'; omega))).trans (Chg.of_grown hg2 fun b hb => ⟨by have := (hbv b hb).1; omega, (HS.out k _ HPK.out).2 b hb⟩), HR.out.kept hg2 (.inr fun hb => by have := (hbv g hb.symm).1; omega), fun j hj => ?_, fun j p hj hp => ?_⟩
          · rw [putAt_get (by simp; omega) (by simp; omega)]
            exact HXS.out j (by omega)
          · refine OwnL.kept (HF.out j p (by omega) hp _ _ _ _) hg2 ?_
            cases hob : p.2.ownBlock with
            | none => exact .inl rfl
            | some b' =>
              refine .inr fun hb => ?_
              have := HAP.out k j _ p b' b' (by omega) HPK.out hp hb.symm hob
              omega
        case measure => simp [intOf]; omega
      · obtain rfl : k = l.length := by omega
        have HX : Hid (k0 + Dsc.cnts l = x) := Lib.hid (by rw [HK.out, List.drop_of_length_le (Nat.le_refl _)]; simp [Dsc.cnts])
        go_wp2
        go_ret
        exact ⟨ret_int (by rw [HX.out]), hc⟩
end Go.Proofs.YtfcdienphillnaaGreat
namespace Go.Proofs.YtfcdienphillnaaGreat
set_option linter.unusedVariables false
set_option linter.unusedSimpArgs false
open Go.RowKit
def RDscS : Rep (List Dsc) where
  own B E w v l := ∃ w0 : World, DscTree B w0 v l ∧ w0.heap.size ≤ E ∧ w0.heap.size ≤ w.heap.size ∧ ∀ k, B ≤ k → k < w0.heap.size → w.heap[k]? = w0.heap[k]?
  raw w v l := DscIn w v l
  wt l := l.length + Dsc.wts l
  cnt l := Dsc.cnts l
  mark _ l := l
  chg := fun ⟨w0, h, hE, hz, hb⟩ hc hd => ⟨w0, h, hE, Nat.le_trans hz hc.size, fun k h1 h2 => (hc.block k (by omega) (by omega)).trans (hb k h1 h2)⟩
  rawk := fun h hb => h.below hb
theorem dsc_tree {B E : Nat} {w : World} {v : Value} {l : List Dsc} (h : RDscS.own B E w v l) : DscTree B w v l := by
  obtain ⟨w0, h, _, hz, hb⟩ := h
  exact h.blocks hz hb
theorem dsc_own {B E : Nat} {w : World} {v : Value} {l : List Dsc} (h : RDscS.own B E w v l) : DscOwn B w v l := (dsc_tree h).own
theorem dsc_bl {l : List Dsc} {n : Nat} (q : RDscS.wt l ≤ n) : ∀ d ∈ l, d.secs.length ≤ n := fun e he => by
  have h1 := Dsc.wts_le he
  have h2 : e.secs.length ≤ e.wt := Nat.le_add_right _ _
  have h3 : l.length + Dsc.wts l ≤ n := q
  omega
theorem r_toDscS (l : List Dsc) (v : Value) (w : World) (h : RDscS.raw w v l) (hn : RDscS.wt l ≤ 1048576) :
    Calls Tryz.prog 45 #[v] w fun e w' => RDscS.ret w l e w' :=
  (toDscT l v w h (Nat.le_trans (Nat.le_add_right _ _) hn) (dsc_bl hn)).mono fun _ w' ⟨v', h1, h2, h3⟩ => ⟨v', h1, ⟨w', h2, Nat.le_refl _, Nat.le_refl _, fun _ _ _ => rfl⟩, h3⟩
theorem r_markDscS (l : List Dsc) (v : Value) (k0 B E : Nat) (w : World) (h : RDscS.own B E w v l) (hn : RDscS.wt l ≤ 1048576) (h0 : 1 ≤ k0) (hk : k0 ≤ 33554432) :
    Calls Tryz.prog 64 #[v, .int .i64 k0] w fun e w' => e = .returned (.int .i64 ((k0 + RDscS.cnt l : Nat) : Int)) ∧ True ∧ Chg B E w w' := by
  obtain ⟨w0, h1, h2, h3, h4⟩ := h
  exact (markDscS l v k0 B w0 w h1 h3 h4 hn h0 hk).mono fun _ _ ⟨h1, h5⟩ => ⟨h1, trivial, h5.mono (Nat.le_refl _) h2⟩
end Go.Proofs.YtfcdienphillnaaGreat
