/- UncoveredSectors, impl and spec: the walks. -/
import Derived.Test.YtddihmpiaemadaaGreatDoorFc05
namespace Go.Proofs.YtddihmpiaemadaaGreatDoor
set_option linter.unusedVariables false
set_option linter.unusedSimpArgs false
open Go.RowKit
set_option maxRecDepth 20000 in
set_option maxHeartbeats 4000000 in
theorem kind_i (B : Nat) (l : List Src) (v : Value) (x : Int) (w : World) (h : OwnL Src.cells 3 49 B w v l) (hn : l.length ≤ 1048576) :
    Calls Tryz.prog 22 #[.agg #[v], .int .i64 x] w fun e w' => e = .returned (.int .i64 (kinN x l)) ∧ Below w.heap.size w w' := by
  obtain ⟨A, c, rfl, hA⟩ := h.shape
  by_cases hl0 : l = []
  · subst hl0
    go_enter Tryz.func22, Tryz.ntmps22
    go_wp2
    refine wp_loop_once ?_
    go_wp2
    go_ret
    exact ⟨rfl, (by repeat (first | exact Below.refl _ _ | refine Below.alloc ?_ (by first | omega | (simp; done) | (simp; omega)) _ | apply Below.drew | apply below_drewN | refine Below.setCell ?_ (by first | omega | (simp; done) | (simp; omega)) _ | refine Below.trans ?_ (Below.mono (by assumption) (by first | omega | (simp; done) | (simp; omega)))))⟩
  · obtain ⟨g, rfl, _, hg⟩ := hA.resolve_left hl0
    clear hA
    have HC : Hid (∀ (k : Nat) (s : Src) (j : Nat) (u : Value), l[k]? = some s → s.cells[j]? = some u → w.cell? ⟨g, k * 3 + j, none⟩ = some u) := Lib.hid (fun k s j u h1 h2 => OwnL.cell Src.len h h1 h2)
    clear h
    go_enter Tryz.func22, Tryz.ntmps22
    go_wp2
    go_loopw [10] (fun i wr => ∃ k : Nat, k ≤ l.length ∧ i = .int .i64 k ∧ Below w.heap.size w wr ∧ Hid (kinN x l = kinN x (l.drop k))) (fun i _ => l.length - (intOf i).toNat)
    case atStart => exact ⟨0, by omega, rfl, (by repeat (first | exact Below.refl _ _ | refine Below.alloc ?_ (by first | omega | (simp; done) | (simp; omega)) _ | apply Below.drew | apply below_drewN | refine Below.setCell ?_ (by first | omega | (simp; done) | (simp; omega)) _ | refine Below.trans ?_ (Below.mono (by assumption) (by first | omega | (simp; done) | (simp; omega))))), Lib.hid rfl⟩
    case round =>
      obtain ⟨k, hk, rfl, hb, HK⟩ := hrel
      have zr : w.heap.size ≤ wr.heap.size := hb.size
      by_cases hlt : k < l.length
      · obtain ⟨s, hs⟩ : ∃ s, l[k]? = some s := ⟨l[k], List.getElem?_eq_getElem hlt⟩
        have HS := Lib.hid hs
        have p0 := (hb.cell (p := ⟨g, k * 3, none⟩) hg).trans (HC.out k s 0 _ hs rfl)
        have p1 := (hb.cell (p := ⟨g, k * 3 + 1, none⟩) hg).trans (HC.out k s 1 _ hs rfl)
        have p2 := (hb.cell (p := ⟨g, k * 3 + 2, none⟩) hg).trans (HC.out k s 2 _ hs rfl)
        clear hs
        cases hd : (s.sector == x)
        · go_wp2
          go_roundw
          case rel => exact ⟨k + 1, by omega, by go_num, (by repeat (first | exact Below.refl _ _ | refine Below.alloc ?_ (by first | omega | (simp; done) | (simp; omega)) _ | apply Below.drew | apply below_drewN | refine Below.setCell ?_ (by first | omega | (simp; done) | (simp; omega)) _ | refine Below.trans ?_ (Below.mono (by assumption) (by first | omega | (simp; done) | (simp; omega))))), kin_no HS.out HK hd⟩
          case measure => simp [intOf]; omega
        · go_wp2
          go_ret
          exact ⟨ret_int (kin_yes HS.out HK hd).symm, (by repeat (first | exact Below.refl _ _ | refine Below.alloc ?_ (by first | omega | (simp; done) | (simp; omega)) _ | apply Below.drew | apply below_drewN | refine Below.setCell ?_ (by first | omega | (simp; done) | (simp; omega)) _ | refine Below.trans ?_ (Below.mono (by assumption) (by first | omega | (simp; done) | (simp; omega)))))⟩
      · go_wp2
        go_ret
        exact ⟨ret_int (kin_end (by omega) HK).symm, hb⟩
/-- what a box's slice of sources holds -/
def SrcAt (w : World) (A : Option Addr) (l : List Src) : Prop := l = [] ∨ ∃ g, A = some ⟨g, 0, none⟩ ∧ g < w.heap.size ∧ ∀ (k : Nat) (s : Src) (j : Nat) (u : Value), l[k]? = some s → s.cells[j]? = some u → w.cell? ⟨g, k * 3 + j, none⟩ = some u
theorem SrcAt.of {B c n : Nat} {w : World} {A : Option Addr} {l : List Src} (h : OwnL Src.cells 3 49 B w (.slice A n c) l) (hn : l.length = n) : SrcAt w A l := by
  subst hn
  obtain ⟨A', c', e, hA⟩ := h.shape
  injection e with e1 _ _
  subst e1
  by_cases hl0 : l = []
  · exact .inl hl0
  · obtain ⟨g, rfl, _, hg⟩ := hA.resolve_left hl0
    exact .inr ⟨g, rfl, hg, fun k s j u h1 h2 => OwnL.cell Src.len h h1 h2⟩
theorem SrcAt.below {w w' : World} {A : Option Addr} {l : List Src} (h : SrcAt w A l) (hb : Below w.heap.size w w') : SrcAt w' A l := by
  rcases h with h | ⟨g, rfl, hg, hc⟩
  · exact .inl h
  · exact .inr ⟨g, rfl, Nat.lt_of_lt_of_le hg hb.size, fun k s j u h1 h2 => (hb.cell (p := ⟨g, _, none⟩) hg).trans (hc k s j u h1 h2)⟩
set_option maxRecDepth 20000 in
set_option maxHeartbeats 4000000 in
theorem unc_i (Ba Bb : Nat) (d : Dsc) (l : List Src) (x y : Value) (w : World) (h : SecOwn Ba w x d.secs) (h2 : OwnL Src.cells 3 49 Bb w y l) (hn : d.secs.length ≤ 1048576) (hl : l.length ≤ 1048576) (hm : ∀ s ∈ d.secs, s.data.size ≤ maxLen) :
    Calls Tryz.prog 9 #[dscV d x, .agg #[y]] w fun e w' => RInt64S.retI w (uncE d l).1 (uncE d l).2 e w' := by
  obtain ⟨i0, hi, hz0, hz1, hz2⟩ := info_parts icell_info
  obtain ⟨A, c, rfl, hA⟩ := OwnL.shape h
  obtain ⟨A', c', rfl, _⟩ := OwnL.shape h2
  have z0 : (((w.alloc (.cells #[.int .i64 d.cyl, .int .i64 d.heads, .int .i64 d.per, .int .i64 d.size, .slice A d.secs.length c] 32)).alloc (.cells #[.slice A' l.length c'] 35))).heap.size = w.heap.size + 2 := by simp
  have HB : Below w.heap.size w ((w.alloc (.cells #[.int .i64 d.cyl, .int .i64 d.heads, .int .i64 d.per, .int .i64 d.size, .slice A d.secs.length c] 32)).alloc (.cells #[.slice A' l.length c'] 35)) := (by repeat (first | exact Below.refl _ _ | refine Below.alloc ?_ (by first | omega | (simp; done) | (simp; omega)) _ | apply Below.drew | apply below_drewN | refine Below.setCell ?_ (by first | omega | (simp; done) | (simp; omega)) _ | refine Below.trans ?_ (Below.mono (by assumption) (by first | omega | (simp; done) | (simp; omega)))))
  have HV := Lib.hid (disc_i Ba d (.slice A d.secs.length c) ((w.alloc (.cells #[.int .i64 d.cyl, .int .i64 d.heads, .int .i64 d.per, .int .i64 d.size, .slice A d.secs.length c] 32)).alloc (.cells #[.slice A' l.length c'] 35)) (OwnL.below h HB) hn hm)
  have HX := Lib.hid (fun (w' : World) (hb : Below w.heap.size w w') => cert_i Bb l (.slice A' l.length c') w' (OwnL.below h2 hb) hl)
  have HK0 := Lib.hid (fun (q : Int) (w' : World) (hb : Below w.heap.size w w') => kind_i Bb l (.slice A' l.length c') q w' (OwnL.below h2 hb) hl)
  have hbx : (((w.alloc (.cells #[.int .i64 d.cyl, .int .i64 d.heads, .int .i64 d.per, .int .i64 d.size, .slice A d.secs.length c] 32)).alloc (.cells #[.slice A' l.length c'] 35))).cell? ⟨w.heap.size + 1, 0, none⟩ = some (.slice A' l.length c') := by simp
  have hbd : (((w.alloc (.cells #[.int .i64 d.cyl, .int .i64 d.heads, .int .i64 d.per, .int .i64 d.size, .slice A d.secs.length c] 32)).alloc (.cells #[.slice A' l.length c'] 35))).cell? ⟨w.heap.size, 4, none⟩ = some (.slice A d.secs.length c) := by simp
  have HC : Hid (∀ (g : Nat), A = some ⟨g, 0, none⟩ → ∀ (k : Nat) (s : Sec), d.secs[k]? = some s → w.cell? ⟨g, k * 2, none⟩ = some (.string s.data) ∧ w.cell? ⟨g, k * 2 + 1, none⟩ = some (.int .i64 s.state)) := Lib.hid (fun g hg k s hk => by
    subst hg
    exact ⟨OwnL.cell Sec.len h hk (j := 0) rfl, OwnL.cell Sec.len h hk (j := 1) rfl⟩)
  clear h h2
  cases hd : discOk d
  · have HF := Lib.hid (unc_no1 (l := l) hd)
    rw [hd] at HV
    go_enter Tryz.func9, Tryz.ntmps9
    go_wp2_with (fail)
    refine HV.out.mono ?_; rintro e w1 ⟨rfl, hb1⟩
    go_wp2
    exact bodyPost_ret (v := .tuple #[.slice none 0 0, .int .i64 1]) (by simp [results, Tryz.results9, go_sem]) rfl ⟨_, by rw [HF.out], by rw [HF.out]; exact ⟨OwnL.of_nil, by simp [Value.ownBlock]⟩, HB.trans (hb1.mono (by omega))⟩
  · rw [hd] at HV
    cases hk : certOk l
    · have HF := Lib.hid (unc_no2 (d := d) hk)
      rw [hk] at HX
      go_enter Tryz.func9, Tryz.ntmps9
      go_wp2_with (fail)
      refine HV.out.mono ?_; rintro e w1 ⟨rfl, hb1⟩
      have B1 : Below w.heap.size w w1 := HB.trans (hb1.mono (by omega))
      have p1 := (hb1.cell (p := ⟨w.heap.size + 1, 0, none⟩) (by show w.heap.size + 1 < _; omega)).trans hbx
      clear hbd hbx
      go_wp2_with (fail)
      refine (HX.out w1 B1).mono ?_; rintro e w2 ⟨rfl, hb2⟩
      go_wp2
      exact bodyPost_ret (v := .tuple #[.slice none 0 0, .int .i64 1]) (by simp [results, Tryz.results9, go_sem]) rfl ⟨_, by rw [HF.out], by rw [HF.out]; exact ⟨OwnL.of_nil, by simp [Value.ownBlock]⟩, B1.trans (hb2.mono B1.size)⟩
    · have HF := Lib.hid (unc_ok hd hk)
      rw [hk] at HX
      clear hd hk
      go_enter Tryz.func9, Tryz.ntmps9
      go_wp2_with (fail)
      refine HV.out.mono ?_; rintro e w1 ⟨rfl, hb1⟩
      have B1 : Below w.heap.size w w1 := HB.trans (hb1.mono (by omega))
      have p1 := (hb1.cell (p := ⟨w.heap.size + 1, 0, none⟩) (by show w.heap.size + 1 < _; omega)).trans hbx
      have q1 := (hb1.cell (p := ⟨w.heap.size, 4, none⟩) (by show w.heap.size < _; omega)).trans hbd
      have z1 : w.heap.size + 2 ≤ w1.heap.size := by have := hb1.size; omega
      clear hbd hbx hb1 HV HB z0
      go_wp2_with (fail)
      refine (HX.out w1 B1).mono ?_; rintro e w2 ⟨rfl, hb2⟩
      have B2 : Below w.heap.size w w2 := B1.trans (hb2.mono B1.size)
      have p2 := (hb2.cell (p := ⟨w.heap.size + 1, 0, none⟩) (by show w.heap.size + 1 < _; omega)).trans p1
      have q2 := (hb2.cell (p := ⟨w.heap.size, 4, none⟩) (by show w.heap.size < _; omega)).trans q1
      have z2 : w.heap.size + 2 ≤ w2.heap.size := Nat.le_trans z1 hb2.size
      clear p1 q1 hb2 HX z1 B1
      go_wp2
      go_loopw [20, 6] (fun i out wr => ∃ (k : Nat) (acc : List Int), k ≤ d.secs.length ∧ i = .int .i64 k ∧ acc.length ≤ k ∧ Below w2.heap.size w2 wr ∧ Int64L w2.heap.size wr out acc ∧ Hid (uncN l 0 d.secs = acc ++ uncN l k (d.secs.drop k))) (fun i _ _ => d.secs.length - (intOf i).toNat)
      case atStart => exact ⟨0, [], by omega, rfl, by simp, Below.refl _ _, OwnL.of_nil, Lib.hid rfl⟩
      case round =>
        obtain ⟨k, acc, hk, rfl, hacc, hb, how, HK⟩ := hrel
        have zr := hb.size
        have BR : Below w.heap.size w wr := B2.trans (hb.mono (by omega))
        by_cases hlt : k < d.secs.length
        · obtain ⟨s, hs⟩ : ∃ s, d.secs[k]? = some s := ⟨d.secs[k], List.getElem?_eq_getElem hlt⟩
          obtain ⟨g, rfl, _, hg⟩ := hA.resolve_left (by intro h0; rw [h0] at hlt; simp at hlt)
          obtain ⟨c0, c1⟩ := HC.out g rfl k s hs
          have t0 := (BR.cell (p := ⟨g, _, none⟩) hg).trans c0
          have t1 := (BR.cell (p := ⟨g, _, none⟩) hg).trans c1
          have pr := (hb.cell (p := ⟨w.heap.size + 1, 0, none⟩) (by show w.heap.size + 1 < _; omega)).trans p2
          have pr' : ∀ o : Obj, (wr.alloc o).cell? ⟨w.heap.size + 1, 0, none⟩ = some (.slice A' l.length c') := fun o => (World.cell?_alloc_old _ _ _ (by show w.heap.size + 1 ≠ _; omega)).trans pr
          have HS := Lib.hid hs
          clear c0 c1 hs
          have Bs : Below w.heap.size w (wr.alloc (.cells #[.string s.data, .int .i64 s.state] 56)) := BR.alloc (by omega) _
          have HKc := Lib.hid (HK0.out (k : Int) _ Bs)
          have HOW := Lib.hid how
          clear how
          by_cases h3 : s.state = 3
          · have HN := un_no HS.out HK (ub1 h3)
            have h3' : (s.state != 3) = false := by rw [h3]; rfl
            clear h3
            go_wp2
            go_roundw
            case rel => exact ⟨k + 1, acc, by omega, by go_num, by omega, hb.alloc zr _, OwnL.alloc HOW.out _, HN⟩
            case measure => simp [intOf]; omega
          · have h3' : (s.state != 3) = true := by simpa using h3
            have H3 := Lib.hid h3
            clear h3
            cases h4 : (kinN (k : Int) l == 0)
            · have HN := un_no HS.out HK (ub2 h4)
              go_wp2_with (fail)
              refine HKc.out.mono ?_; rintro e w3 ⟨rfl, hb3⟩
              go_wp2
              go_roundw
              case rel => exact ⟨k + 1, acc, by omega, by go_num, by omega, (hb.alloc zr _).trans (hb3.mono (by simp; omega)), OwnL.below (OwnL.alloc HOW.out _) hb3, HN⟩
              case measure => simp [intOf]; omega
            · have HN := un_yes HS.out HK (ub3 H3.out h4)
              go_wp2_with (fail)
              refine HKc.out.mono ?_; rintro e w3 ⟨rfl, hb3⟩
              have z3 : wr.heap.size ≤ w3.heap.size := by have := hb3.size; simp at this; omega
              have HB4 := Lib.hid ((hb.alloc zr (.cells #[.string s.data, .int .i64 s.state] 56)).trans (hb3.mono (by simp; omega)))
              have HO4 : Hid (Int64L w2.heap.size w3 _ acc) := Lib.hid (OwnL.below (OwnL.alloc HOW.out _) hb3)
              go_wp2_with (at_builtin; refine wpList_app1 icell 1 icell_len _ rfl _ _ _ rfl w2.heap.size 2 i0 (.int .i64 0) 8 Tryz.underlying25 hi hz0 hz1 hz2 rfl (by decide) _ acc rfl (HO4.out.alloc _) _ 1 (k : Int) rfl ?_ (by simp [icell, Value.oneCell']) (by omega) (by omega) (by simp; omega) ?_; (· intro j u hu; cases j with | zero => (simp [icell] at hu; subst hu; simp) | succ j => simp [icell] at hu); intro v' w5 how2 hg2)
              go_roundw
              case rel => exact ⟨k + 1, acc ++ [(k : Int)], by omega, by go_num, by simp; omega, own_grown_below (HO4.out.alloc _) (Below.alloc HB4.out (by omega) _) hg2 (Nat.le_refl _) (by simp; omega), how2, HN⟩
              case measure => simp [intOf]; omega
        · go_wp2
          have he := un_end (by omega) HK
          exact bodyPost_ret (by simp [results, Tryz.results9, go_sem] <;> rfl) rfl ⟨_, by rw [HF.out], by rw [HF.out, he]; exact ⟨OwnL.base how (by omega), fun b hb => (how.lt b hb).2⟩, BR⟩
end Go.Proofs.YtddihmpiaemadaaGreatDoor
