/- sectorsAt, l24Column, l24Count, oneKind: the walks. -/
import Derived.Test.YtignjjkldmninaaColLaw
namespace Go.Proofs.Ytignjjkldmninaa
set_option linter.unusedVariables false
open Go.RowKit
theorem sec_info : (Try.prog.info? 48).map (fun i => (i.zero, i.size, i.bytes)) = some (some (.agg #[.string .empty, .int .i64 0]), 2, 24) := by kernel_rfl
set_option maxRecDepth 20000 in
set_option maxHeartbeats 4000000 in
theorem col_i (B k : Nat) (l : List Dsc) (v : Value) (w : World) (h : DscOwn B w v l) (hn : l.length ≤ 1048576) (hk : ∀ d ∈ l, k < d.secs.length) :
    Calls Try.prog 100 #[v, .int .i64 k] w fun e w' => RetL Sec.cells 2 48 w (colF k l) e w' := by
  obtain ⟨i0, hi, hz0, hz1, hz2⟩ := info_parts sec_info
  obtain ⟨A, c, rfl, hA⟩ := h
  rcases hA with rfl | ⟨g, rfl, _, hg, hc⟩
  · go_enter Try.func100, Try.ntmps100
    go_wp2_with (at_make; refine wpList_make_full _ rfl _ _ _ rfl w.heap.size 48 i0 (.agg #[.string .empty, .int .i64 0]) 2 Try.underlying37 hi hz0 hz1 .i64 .i64 _ _ 0 rfl rfl rfl rfl (by omega) (by unfold maxLen; omega) (Nat.le_refl _) ?_; intro w1 hown hgrow)
    refine wp_loop_once ?_
    go_wp2
    go_ret
    refine ⟨_, rfl, ?_, (Below.refl _ _).grown hgrow (Nat.le_refl _) (by simp)⟩
    rw [made_flat (f := Sec.cells) Sec.len (by omega) secZ (Value.agg #[.string .empty, .int .i64 0]).cells rfl] at hown
    exact hown
  · have HC := Lib.hid hc
    have hcl := col_len k l
    have HCG := Lib.hid (fun (j : Nat) (d : Dsc) (s : Sec) => col_get (k := k) (j := j) (l := l) (d := d) (s := s))
    generalize hcc : colF k l = cl at *
    clear hc
    go_enter Try.func100, Try.ntmps100
    go_wp2_with (at_make; refine wpList_make_full _ rfl _ _ _ rfl w.heap.size 48 i0 (.agg #[.string .empty, .int .i64 0]) 2 Try.underlying37 hi hz0 hz1 .i64 .i64 _ _ l.length rfl rfl rfl rfl (by rw [hz2]; omega) (by unfold maxLen; omega) (Nat.le_refl _) ?_; intro w1 hown hgrow)
    have hb0 : Below w.heap.size w w1 := (Below.refl _ _).grown hgrow (Nat.le_refl _) (by simp)
    rw [made_flat (f := Sec.cells) Sec.len (by omega) secZ (Value.agg #[.string .empty, .int .i64 0]).cells rfl] at hown
    clear hgrow
    go_loopw [13] (fun i wr => ∃ j : Nat, j ≤ l.length ∧ i = .int .i64 j ∧ Below w.heap.size w wr ∧ wr.ownsRow w.heap.size 48 2 (.slice (some ⟨w.heap.size, 0, none⟩) l.length l.length) l.length (flat Sec.cells (cl.take j ++ List.replicate (cl.length - j) secZ))) (fun i _ => l.length - (intOf i).toNat)
    case atStart => exact ⟨0, by omega, rfl, hb0, by simpa [hcl] using hown⟩
    case round =>
      obtain ⟨j, hj, rfl, hb, how⟩ := hrel
      clear hown hb0
      by_cases hlt : j < l.length
      · obtain ⟨e, he⟩ : ∃ e, l[j]? = some e := ⟨l[j]'(by omega), List.getElem?_eq_getElem (by omega)⟩
        have hz : w.heap.size ≤ wr.heap.size := hb.size
        have hgw : w.heap.size < wr.heap.size := (how.lt _ rfl).2
        have hke := hk e (List.mem_of_getElem? he)
        obtain ⟨s, hs⟩ : ∃ s, e.secs[k]? = some s := ⟨e.secs[k], List.getElem?_eq_getElem hke⟩
        have hcj := HCG.out j e s he hs
        obtain ⟨bv, o1, c1⟩ := HC.out j e he
        obtain ⟨A2, c2, rfl, hA2⟩ := OwnL.shape o1
        obtain ⟨g2, rfl, _, hg2⟩ := hA2.resolve_left (by intro h0; rw [h0] at hke; simp at hke)
        have PC := fun (i : Nat) (u : Value) (hu : (e.ints ++ [.slice (some ⟨g2, 0, none⟩) e.secs.length c2])[i]? = some u) => (hb.cell (p := ⟨g, j * 5 + i, none⟩) hg).trans (c1 i u hu)
        have p0 : wr.cell? ⟨g, j * 5, none⟩ = some (.int .i64 e.cyl) := PC 0 _ rfl
        have p1 := PC 1 _ rfl
        have p2 := PC 2 _ rfl
        have p3 := PC 3 _ rfl
        have p4 := PC 4 _ rfl
        have hgr : g < wr.heap.size := by omega
        have hg2r : g2 < wr.heap.size := by omega
        have s0 : wr.cell? ⟨g2, k * 2, none⟩ = some (.string s.data) := (hb.cell (p := ⟨g2, _, none⟩) hg2).trans (OwnL.cell Sec.len o1 hs (j := 0) rfl)
        have s1 : wr.cell? ⟨g2, k * 2 + 1, none⟩ = some (.int .i64 s.state) := (hb.cell (p := ⟨g2, _, none⟩) hg2).trans (OwnL.cell Sec.len o1 hs (j := 1) rfl)
        have HO1 := Lib.hid how
        have q0 : wr.cell? ⟨w.heap.size, j * 2, none⟩ = some (.string .empty) := (HO1.out.cellAt (j * 2 + 0) (by omega)).trans (flat_get Sec.len (fill_get cl j secZ (by omega)) (j := 0) (by omega))
        have q1 : wr.cell? ⟨w.heap.size, j * 2 + 1, none⟩ = some (.int .i64 0) := (HO1.out.cellAt (j * 2 + 1) (by omega)).trans (flat_get Sec.len (fill_get cl j secZ (by omega)) (j := 1) (by omega))
        have z0 := fun j => HO1.out.frozenAt j
        have HCJ := Lib.hid hcj
        clear PC o1 c1 he hs hcj how
        go_wp2
        go_roundw
        case rel => exact ⟨j + 1, by omega, by go_num, (by repeat (first | exact Below.refl _ _ | refine Below.alloc ?_ (by first | omega | (simp; done) | (simp; omega)) _ | apply Below.drew | apply below_drewN | refine Below.setCell ?_ (by first | omega | (simp; done) | (simp; omega)) _ | refine Below.trans ?_ (Below.mono (by assumption) (by first | omega | (simp; done) | (simp; omega))))), by rw [← fill_set cl j secZ s HCJ.out, ← flat_put Sec.len _ j s (by rw [fill_len cl j secZ (by omega)]; omega)]; exact (own_put2 HO1.out (.string s.data) (.int .i64 s.state) (by rw [flat_len Sec.len, fill_len cl j secZ (by omega)]; omega)).alloc _⟩
        case measure => simp [intOf]; omega
      · go_wp2
        go_ret
        refine ⟨_, rfl, ?_, hb⟩
        rw [List.take_of_length_le (by omega)] at how
        obtain rfl : j = l.length := by omega
        simpa [OwnL, hcl] using how
set_option maxRecDepth 20000 in
set_option maxHeartbeats 4000000 in
theorem col_s (B k : Nat) (l : List Dsc) (v : Value) (w : World) (h : DscOwn B w v l) (hn : l.length ≤ 1048576) (hk : ∀ d ∈ l, k < d.secs.length) :
    Calls Try.prog 87 #[v, .int .i64 k] w fun e w' => RetL Sec.cells 2 48 w (colF k l) e w' := by
  obtain ⟨i0, hi, hz0, hz1, hz2⟩ := info_parts sec_info
  obtain ⟨A, c, rfl, hA⟩ := h
  rcases hA with rfl | ⟨g, rfl, _, hg, hc⟩
  · go_enter Try.func87, Try.ntmps87
    go_wp2
    refine wp_loop_once ?_
    go_wp2
    go_ret
    exact ⟨_, rfl, OwnL.of_empty w (Nat.le_refl _), (by repeat (first | exact Below.refl _ _ | refine Below.alloc ?_ (by first | omega | (simp; done) | (simp; omega)) _ | apply Below.drew | apply below_drewN | refine Below.setCell ?_ (by first | omega | (simp; done) | (simp; omega)) _ | refine Below.trans ?_ (Below.mono (by assumption) (by first | omega | (simp; done) | (simp; omega)))))⟩
  · have HC := Lib.hid hc
    have hcl := col_len k l
    have HCG := Lib.hid (fun (j : Nat) (d : Dsc) (s : Sec) => col_get (k := k) (j := j) (l := l) (d := d) (s := s))
    generalize hcc : colF k l = cl at *
    clear hc
    go_enter Try.func87, Try.ntmps87
    go_wp2
    go_loopw [6, 5] (fun i out wr => ∃ j : Nat, j ≤ l.length ∧ i = .int .i64 j ∧ Below w.heap.size w wr ∧ OwnL Sec.cells 2 48 w.heap.size wr out (cl.take j)) (fun i _ _ => l.length - (intOf i).toNat)
    case atStart => exact ⟨0, by omega, rfl, (by repeat (first | exact Below.refl _ _ | refine Below.alloc ?_ (by first | omega | (simp; done) | (simp; omega)) _ | apply Below.drew | apply below_drewN | refine Below.setCell ?_ (by first | omega | (simp; done) | (simp; omega)) _ | refine Below.trans ?_ (Below.mono (by assumption) (by first | omega | (simp; done) | (simp; omega))))), by simpa using OwnL.of_empty w (Nat.le_refl _)⟩
    case round =>
      obtain ⟨j, hj, rfl, hb, how⟩ := hrel
      by_cases hlt : j < l.length
      · obtain ⟨e, he⟩ : ∃ e, l[j]? = some e := ⟨l[j]'(by omega), List.getElem?_eq_getElem (by omega)⟩
        have hz : w.heap.size ≤ wr.heap.size := hb.size
        have hke := hk e (List.mem_of_getElem? he)
        obtain ⟨s, hs⟩ : ∃ s, e.secs[k]? = some s := ⟨e.secs[k], List.getElem?_eq_getElem hke⟩
        have hcj := HCG.out j e s he hs
        have htk : cl.take (j + 1) = cl.take j ++ [s] := by
          obtain ⟨h1, h2⟩ := List.getElem?_eq_some_iff.1 hcj
          rw [List.take_succ_eq_append_getElem h1, h2]
        have htl : (cl.take j).length = j := by simp; omega
        obtain ⟨bv, o1, c1⟩ := HC.out j e he
        obtain ⟨A2, c2, rfl, hA2⟩ := OwnL.shape o1
        obtain ⟨g2, rfl, _, hg2⟩ := hA2.resolve_left (by intro h0; rw [h0] at hke; simp at hke)
        have p4 := (hb.cell (p := ⟨g, j * 5 + 4, none⟩) hg).trans (c1 4 _ rfl)
        have s0 : wr.cell? ⟨g2, k * 2, none⟩ = some (.string s.data) := (hb.cell (p := ⟨g2, _, none⟩) hg2).trans (OwnL.cell Sec.len o1 hs (j := 0) rfl)
        have s1 : wr.cell? ⟨g2, k * 2 + 1, none⟩ = some (.int .i64 s.state) := (hb.cell (p := ⟨g2, _, none⟩) hg2).trans (OwnL.cell Sec.len o1 hs (j := 1) rfl)
        have HO := Lib.hid how
        have HT := Lib.hid htk
        clear o1 c1 he hs hcj how htk
        go_wp2_with (at_builtin; refine wpList_app1 Sec.cells 2 Sec.len _ rfl _ _ _ rfl w.heap.size 48 i0 (.agg #[.string .empty, .int .i64 0]) 24 Try.underlying37 hi hz0 hz1 hz2 rfl (by decide) _ (cl.take j) rfl (HO.out.alloc _) _ 1 s rfl ?_ (by simp [Sec.cells, Value.oneCell']) (by omega) (by omega) (by simp; omega) ?_; (· intro i u hu; match i, hu with | 0, hu => (simp [Sec.cells] at hu; subst hu; simp) | 1, hu => (simp [Sec.cells] at hu; subst hu; simp) | i + 2, hu => (simp [Sec.cells] at hu)); intro v' w2 how2 hg3)
        go_roundw
        case rel => exact ⟨j + 1, by omega, by go_num, own_grown_below (HO.out.alloc _) (by repeat (first | exact Below.refl _ _ | refine Below.alloc ?_ (by first | omega | (simp; done) | (simp; omega)) _ | apply Below.drew | apply below_drewN | refine Below.setCell ?_ (by first | omega | (simp; done) | (simp; omega)) _ | refine Below.trans ?_ (Below.mono (by assumption) (by first | omega | (simp; done) | (simp; omega))))) hg3 (Nat.le_refl _) (by first | omega | (simp; done) | (simp; omega)), by rw [HT.out]; exact how2⟩
        case measure => simp [intOf]; omega
      · go_wp2
        go_ret
        exact ⟨_, rfl, by rw [List.take_of_length_le (by omega)] at how; exact how, hb⟩
set_option maxHeartbeats 2000000 in
theorem count_s (B : Nat) (l : List ByteArray) (v : Value) (t : ByteArray) (w : World) (h : StringL B w v l) (hn : l.length ≤ 1048576) :
    Calls Try.prog 90 #[v, .string t] w fun e w' => e = .returned (.int .i64 (cntF t l)) ∧ w = w' := by
  obtain ⟨A, c, rfl, hA⟩ := h.shape
  by_cases hl0 : l = []
  · subst hl0
    go_enter Try.func90, Try.ntmps90
    go_wp2
    refine wp_loop_once ?_
    go_wp2
    go_ret
    exact ⟨rfl, rfl⟩
  · obtain ⟨g, rfl, _, hg⟩ := hA.resolve_left hl0
    have HC := Lib.hid (fun k s (hk : l[k]? = some s) => StringL.at_ h rfl hk)
    have hcl := cnt_le t l
    clear h hA
    go_enter Try.func90, Try.ntmps90
    go_wp2
    go_loop [6, 5] (fun i n => ∃ k x : Nat, k ≤ l.length ∧ i = .int .i64 k ∧ n = .int .i64 x ∧ x ≤ k ∧ Hid (cntF t l = x + cntF t (l.drop k))) (fun i _ => l.length - (intOf i).toNat)
    case atStart => exact ⟨0, 0, by omega, rfl, rfl, by omega, Lib.hid (by simp)⟩
    case round =>
      obtain ⟨k, x, hk, rfl, rfl, hx, HK⟩ := hrel
      by_cases hlt : k < l.length
      · obtain ⟨s, hs⟩ : ∃ s, l[k]? = some s := ⟨l[k], List.getElem?_eq_getElem hlt⟩
        have p0 := HC.out k s hs
        have HD := Lib.hid (cnt_drop (t := t) hs)
        clear hs
        cases hc : (s.toList == t.toList)
        · have HN : Hid (cntF t l = x + cntF t (l.drop (k + 1))) := Lib.hid (by rw [HK.out, HD.out, hc]; simp)
          go_wp2
          go_round
          case rel => exact ⟨k + 1, x, by omega, by go_num, rfl, by omega, HN⟩
          case measure => simp [intOf]; omega
        · have HN : Hid (cntF t l = (x + 1) + cntF t (l.drop (k + 1))) := Lib.hid (by rw [HK.out, HD.out, hc]; simp; omega)
          go_wp2
          go_round
          case rel => exact ⟨k + 1, x + 1, by omega, by go_num, by go_num, by omega, HN⟩
          case measure => simp [intOf]; omega
      · have HX : Hid (cntF t l = x) := Lib.hid (by rw [HK.out, List.drop_of_length_le (by omega)]; simp [cntF])
        go_wp2
        go_ret
        exact ⟨ret_int (by rw [HX.out]), rfl⟩
end Go.Proofs.Ytignjjkldmninaa
