/- ConflictsOf, impl and spec: the walks. -/
import Derived.Test.YtignjjkldmninaaHDisc6
import Derived.Test.YtignjjkldmninaaChosen
/- chosen, for one condition: the walk. -/
namespace Go.Proofs.Ytignjjkldmninaa
set_option linter.unusedVariables false
open Go.RowKit
set_option maxRecDepth 20000 in
set_option maxHeartbeats 4000000 in
theorem chosen_conf (B : Nat) (l : List Dsc) (v : Value) (w : World) (h : DscOwn B w v l) (hn : l.length ≤ 1048576) (hb2 : ∀ d ∈ l, d.secs.length ≤ 1048576) (hm : ∀ d ∈ l, ∀ s ∈ d.secs, s.data.size ≤ maxLen) :
    Calls Try.prog 88 #[v, .func (.func 93) #[] #[]] w fun e w' => RInt64S.retI w (chE confB l).1 (chE confB l).2 e w' := by
  obtain ⟨i0, hi, hz0, hz1, hz2⟩ := info_parts icell_info
  have HV := Lib.hid (dumps_i B l v w h hn hb2 hm)
  have hlen := chE_len confB l hb2
  cases hok : dumpsOk l
  · have HF : Hid (chE confB l = ([], 1)) := Lib.hid (by unfold chE; rw [hok]; rfl)
    obtain ⟨A, c, rfl, _⟩ := h
    rw [hok] at HV
    go_enter Try.func88, Try.ntmps88
    go_wp2_with (fail)
    refine HV.out.mono ?_; rintro e w1 ⟨rfl, hb1⟩
    go_wp2
    exact bodyPost_ret (v := .tuple #[.slice none 0 0, .int .i64 1]) (by simp [results, Try.results88, go_sem]) rfl ⟨_, by rw [HF.out], by rw [HF.out]; exact ⟨OwnL.of_nil, by simp [Value.ownBlock]⟩, hb1⟩
  · have HF : Hid (chE confB l = (chF confB l 0 (l.headD default).secs.length, 0)) := Lib.hid (by unfold chE; rw [hok]; rfl)
    obtain ⟨z, hz⟩ := du_first hok
    have hzd : l.headD default = z := by cases l with | nil => cases hz | cons a r => simpa using hz
    have hN : z.secs.length ≤ 128 := ok_le (du_mem hok hz (List.mem_of_getElem? hz)).1
    have hl5 := du_len hok
    have hl1 : 0 < l.length := (List.getElem?_eq_some_iff.1 hz).1
    have HD := Lib.hid (fun d (hd : d ∈ l) => du_secs hok hz hd)
    rw [hzd] at HF
    have HO := Lib.hid h
    obtain ⟨A, c, rfl, hA⟩ := h
    obtain ⟨g, rfl, _, hg, hc⟩ := hA.resolve_left (by rintro rfl; cases hz)
    obtain ⟨bz, oz, cz⟩ := hc 0 z hz
    have pz : ∀ wr, Below w.heap.size w wr → wr.cell? ⟨g, 4, none⟩ = some bz := fun wr hb => (hb.cell (p := ⟨g, 4, none⟩) hg).trans (by have := cz 4 bz rfl; simpa using this)
    obtain ⟨Az, cz', rfl, _⟩ := OwnL.shape oz
    rw [hok] at HV
    clear hA hc hz cz oz hzd
    go_enter Try.func88, Try.ntmps88
    go_wp2_with (fail)
    refine HV.out.mono ?_; rintro e w1 ⟨rfl, hb1⟩
    have z1 := hb1.size
    have p1 := pz w1 hb1
    clear pz
    go_wp2
    go_loopw [16, 6] (fun i out wr => ∃ (k : Nat) (acc : List Int), k ≤ z.secs.length ∧ i = .int .i64 k ∧ acc.length ≤ k ∧ Below w.heap.size w wr ∧ Int64L w.heap.size wr out acc ∧ Hid (chF confB l 0 z.secs.length = acc ++ chF confB l k (z.secs.length - k))) (fun i _ _ => z.secs.length - (intOf i).toNat)
    case atStart => exact ⟨0, [], by omega, rfl, by simp, hb1, OwnL.of_nil, Lib.hid rfl⟩
    case round =>
      obtain ⟨k, acc, hk, rfl, hacc, hb, how, HK⟩ := hrel
      by_cases hlt : k < z.secs.length
      · have zr := hb.size
        have HI := Lib.hid (col_i B k l _ wr (HO.out.below hb) hn (fun d hd => by rw [HD.out d hd]; exact hlt))
        have hgl : (stF 1 (colF k l)).length ≤ 1048576 := by have := stF_len 1 (colF k l); rw [col_len] at this; omega
        have hcl := col_len k l
        have hgd : goodF k l = stF 1 (colF k l) := rfl
        generalize colF k l = cl at HI hgl hcl hgd
        have HOW := Lib.hid how
        clear how
        cases hc : confB (goodF k l)
        · have HN := ch_no hlt HK hc
          rw [hgd] at hc
          go_wp2_with (fail)
          refine HI.out.mono ?_; rintro e' w2 ⟨v2, rfl, o2, hb2'⟩
          have H3 := Lib.hid (good_i _ v2 cl w2 (by omega) o2)
          obtain ⟨A3, c3, hv2, _⟩ := OwnL.shape o2
          rw [hcl] at hv2
          subst hv2
          go_wp2_with (fail)
          refine H3.out.mono ?_; rintro e' w3 ⟨v3, rfl, o3, hb3⟩
          have z2 := hb2'.size
          have z3 := hb3.size
          have H4 := Lib.hid (conf_c _  _ v3 w3 o3 hgl)
          rw [hc] at H4
          obtain ⟨A4, c4, rfl, _⟩ := OwnL.shape o3
          go_wp2_with (fail)
          refine H4.out.mono ?_; rintro e' w4 ⟨rfl, hb4⟩
          have z4 := hb4.size
          have HO4 := ((HOW.out.below hb2').below hb3).below hb4
          go_wp2
          go_roundw
          case rel => exact ⟨k + 1, acc, by omega, by go_num, by omega, hb.trans (((hb2'.trans (hb3.mono z2)).trans (hb4.mono (by omega))).mono zr), HO4, HN⟩
          case measure => simp [intOf]; omega
        · have HN := ch_yes hlt HK hc
          rw [hgd] at hc
          go_wp2_with (fail)
          refine HI.out.mono ?_; rintro e' w2 ⟨v2, rfl, o2, hb2'⟩
          have H3 := Lib.hid (good_i _ v2 cl w2 (by omega) o2)
          obtain ⟨A3, c3, hv2, _⟩ := OwnL.shape o2
          rw [hcl] at hv2
          subst hv2
          go_wp2_with (fail)
          refine H3.out.mono ?_; rintro e' w3 ⟨v3, rfl, o3, hb3⟩
          have z2 := hb2'.size
          have z3 := hb3.size
          have H4 := Lib.hid (conf_c _  _ v3 w3 o3 hgl)
          rw [hc] at H4
          obtain ⟨A4, c4, rfl, _⟩ := OwnL.shape o3
          go_wp2_with (fail)
          refine H4.out.mono ?_; rintro e' w4 ⟨rfl, hb4⟩
          have z4 := hb4.size
          have HO4 := Lib.hid (((HOW.out.below hb2').below hb3).below hb4)
          have HB4 := Lib.hid (hb.trans (((hb2'.trans (hb3.mono z2)).trans (hb4.mono (by omega))).mono zr))
          go_wp2_with (at_builtin; refine wpList_app1 icell 1 icell_len _ rfl _ _ _ rfl w.heap.size 2 i0 (.int .i64 0) 8 Try.underlying32 hi hz0 hz1 hz2 rfl (by decide) _ acc rfl (HO4.out.alloc _) _ 1 (k : Int) rfl ?_ (by simp [icell, Value.oneCell']) (by omega) (by omega) (by simp; omega) ?_; (· intro j u hu; cases j with | zero => (simp [icell] at hu; subst hu; simp) | succ j => simp [icell] at hu); intro v' w5 how2 hg2)
          go_roundw
          case rel => exact ⟨k + 1, acc ++ [(k : Int)], by omega, by go_num, by simp; omega, own_grown_below (HO4.out.alloc _) (Below.alloc HB4.out (by omega) _) hg2 (Nat.le_refl _) (by simp; omega), how2, HN⟩
          case measure => simp [intOf]; omega
      · go_wp2
        have he := ch_end (by omega) HK
        exact bodyPost_ret (by simp [results, Try.results88, go_sem] <;> rfl) rfl ⟨_, by rw [HF.out], by rw [HF.out, he]; exact ⟨how, fun b hb => (how.lt b hb).2⟩, hb⟩
end Go.Proofs.Ytignjjkldmninaa
namespace Go.Proofs.Ytignjjkldmninaa
open Go.RowKit
def conflictsE (l : List Dsc) : List Int × Int := chE confB l
theorem conflictsE_len (l : List Dsc) (hb : ∀ d ∈ l, d.secs.length ≤ 1048576) : (conflictsE l).1.length ≤ 1048576 := chE_len _ l hb
theorem kind_cnt {g : List ByteArray} {t : ByteArray} (ht : g[0]? = some t) : kindF g = decide (cntF t g = g.length) := by
  cases g with
  | nil => cases ht
  | cons a r =>
    obtain rfl : a = t := by simpa using ht
    unfold kindF
    rw [show (a :: r).headD .empty = a from rfl]
    cases hh : (a :: r).any fun s => s.toList != a.toList
    · rw [decide_eq_true (cnt_all.2 hh)]; rfl
    · rw [decide_eq_false (by rw [cnt_all, hh]; decide)]; rfl
set_option maxHeartbeats 2000000 in
theorem conflicts_i (B : Nat) (l : List Dsc) (v : Value) (w : World) (h : DscOwn B w v l) (hn : l.length ≤ 1048576) (hb2 : ∀ d ∈ l, d.secs.length ≤ 1048576) (hm : ∀ d ∈ l, ∀ s ∈ d.secs, s.data.size ≤ maxLen) :
    Calls Try.prog 50 #[v] w fun e w' => RInt64S.retI w (conflictsE l).1 (conflictsE l).2 e w' := by
  have HC := Lib.hid (chosen_conf B l v w h hn hb2 hm)
  obtain ⟨A, c, rfl, _⟩ := h
  unfold conflictsE
  go_enter Try.func50, Try.ntmps50
  go_wp2_with (fail)
  refine HC.out.mono ?_; rintro e w1 ⟨v1, rfl, o1, hb1⟩
  obtain ⟨A1, c1, rfl, _⟩ := OwnL.shape o1.1
  go_wp2
  exact bodyPost_ret (by simp [results, Try.results50, go_sem] <;> rfl) rfl ⟨_, rfl, o1, hb1⟩
set_option maxRecDepth 20000 in
set_option maxHeartbeats 4000000 in
theorem conflicts_s (B : Nat) (l : List Dsc) (v : Value) (w : World) (h : DscOwn B w v l) (hn : l.length ≤ 1048576) (hb2 : ∀ d ∈ l, d.secs.length ≤ 1048576) (hm : ∀ d ∈ l, ∀ s ∈ d.secs, s.data.size ≤ maxLen) :
    Calls Try.prog 49 #[v] w fun e w' => RInt64S.retI w (conflictsE l).1 (conflictsE l).2 e w' := by
  obtain ⟨i0, hi, hz0, hz1, hz2⟩ := info_parts icell_info
  have HV := Lib.hid (dumpsL_s B l v w h hn hb2 hm)
  unfold conflictsE
  cases hok : dumpsOk l
  · have HF : Hid (chE confB l = ([], 1)) := Lib.hid (by unfold chE; rw [hok]; rfl)
    obtain ⟨A, c, rfl, _⟩ := h
    rw [hok] at HV
    go_enter Try.func49, Try.ntmps49
    go_wp2_with (fail)
    refine HV.out.mono ?_; rintro e w1 ⟨rfl, hb1⟩
    go_wp2
    exact bodyPost_ret (v := .tuple #[.slice none 0 0, .int .i64 1]) (by simp [results, Try.results49, go_sem]) rfl ⟨_, by rw [HF.out], by rw [HF.out]; exact ⟨OwnL.of_nil, by simp [Value.ownBlock]⟩, hb1⟩
  · have HF : Hid (chE confB l = (chF confB l 0 (l.headD default).secs.length, 0)) := Lib.hid (by unfold chE; rw [hok]; rfl)
    obtain ⟨z, hz⟩ := du_first hok
    have hzd : l.headD default = z := by cases l with | nil => cases hz | cons a r => simpa using hz
    have hN : z.secs.length ≤ 128 := ok_le (du_mem hok hz (List.mem_of_getElem? hz)).1
    have hl5 := du_len hok
    have hl1 : 0 < l.length := (List.getElem?_eq_some_iff.1 hz).1
    have HD := Lib.hid (fun d (hd : d ∈ l) => du_secs hok hz hd)
    rw [hzd] at HF
    have HO := Lib.hid h
    obtain ⟨A, c, rfl, hA⟩ := h
    obtain ⟨g, rfl, _, hg, hc⟩ := hA.resolve_left (by rintro rfl; cases hz)
    obtain ⟨bz, oz, cz⟩ := hc 0 z hz
    have pz : ∀ wr, Below w.heap.size w wr → wr.cell? ⟨g, 4, none⟩ = some bz := fun wr hb => (hb.cell (p := ⟨g, 4, none⟩) hg).trans (by have := cz 4 bz rfl; simpa using this)
    obtain ⟨Az, cz', rfl, _⟩ := OwnL.shape oz
    rw [hok] at HV
    have PZ := Lib.hid pz
    clear hA hc hz cz oz hzd pz
    go_enter Try.func49, Try.ntmps49
    go_wp2_with (fail)
    refine HV.out.mono ?_; rintro e w1 ⟨rfl, hb1⟩
    have z1 := hb1.size
    go_wp2
    go_loopw [5, 4] (fun i out wr => ∃ (k : Nat) (acc : List Int), k ≤ z.secs.length ∧ i = .int .i64 k ∧ acc.length ≤ k ∧ Below w.heap.size w wr ∧ Int64L w.heap.size wr out acc ∧ Hid (chF confB l 0 z.secs.length = acc ++ chF confB l k (z.secs.length - k))) (fun i _ _ => z.secs.length - (intOf i).toNat)
    case atStart => exact ⟨0, [], by omega, rfl, by simp, (by repeat (first | exact Below.refl _ _ | refine Below.alloc ?_ (by first | omega | (simp; done) | (simp; omega)) _ | apply Below.drew | apply below_drewN | refine Below.setCell ?_ (by first | omega | (simp; done) | (simp; omega)) _ | refine Below.trans ?_ (Below.mono (by assumption) (by first | omega | (simp; done) | (simp; omega))))), OwnL.base (OwnL.of_empty w1 (Nat.le_refl _)) z1, Lib.hid rfl⟩
    case round =>
      obtain ⟨k, acc, hk, rfl, hacc, hb, how, HK⟩ := hrel
      have pzr := PZ.out wr hb
      by_cases hlt : k < z.secs.length
      · have zr := hb.size
        have HI := Lib.hid (col_s B k l _ wr (HO.out.below hb) hn (fun d hd => by rw [HD.out d hd]; exact hlt))
        have hcl := col_len k l
        have hgl : (stF 1 (colF k l)).length ≤ l.length := by have := stF_len 1 (colF k l); rw [col_len] at this; exact this
        have hPg : goodF k l = stF 1 (colF k l) := rfl
        generalize colF k l = cl at HI hgl hcl hPg
        have HOW := Lib.hid how
        clear how
        go_wp2_with (fail)
        refine HI.out.mono ?_; rintro e' w2 ⟨v2, rfl, o2, hb2'⟩
        have H3 := Lib.hid (state_s _ v2 cl 1 w2 (by omega) o2)
        obtain ⟨A3, c3, hv2, _⟩ := OwnL.shape o2
        rw [hcl] at hv2
        subst hv2
        go_wp2_with (fail)
        refine H3.out.mono ?_; rintro e' w3 ⟨v3, rfl, o3, hb3⟩
        have z2 := hb2'.size
        have z3 := hb3.size
        have HO3 := Lib.hid ((HOW.out.below hb2').below hb3)
        have HB3 := Lib.hid (hb.trans ((hb2'.trans (hb3.mono z2)).mono zr))
        by_cases h0 : 0 < (stF 1 cl).length
        · obtain ⟨t, ht⟩ : ∃ t, (stF 1 cl)[0]? = some t := ⟨_, List.getElem?_eq_getElem h0⟩
          cases hc : confB (goodF k l)
          · have E0 := Lib.hid (fun (g c : Nat) (hv : v3 = .slice (some ⟨g, 0, none⟩) (stF 1 cl).length c) => show w3.cell? ⟨g, 0, none⟩ = some (.string t) from StringL.at_ (by rw [hv] at o3; exact o3) rfl ht)
            have HCT := Lib.hid (count_s _ (stF 1 cl) v3 t w3 o3 (by omega))
            obtain ⟨A4, c4, rfl, h4⟩ := OwnL.shape o3
            obtain ⟨g4, rfl, _, hg4⟩ := h4.resolve_left (by intro h; rw [h] at h0; simp at h0)
            have e0 : w3.cell? ⟨g4, 0, none⟩ = some (.string t) := E0.out g4 _ (by first | rfl | rw [hL])
            have hk2 : decide ((cntF t (stF 1 cl) : Int) < ((stF 1 cl).length : Int)) = false := by unfold confB at hc; rw [hPg, kind_cnt ht] at hc; simp at hc ⊢; omega
            have hk4 : ¬ cntF t (stF 1 cl) < (stF 1 cl).length := by simpa using hk2
            have HN := ch_no hlt HK hc
            go_wp2_with (fail)
            refine HCT.out.mono ?_; rintro e' w5 ⟨rfl, rfl⟩
            go_wp2
            go_roundw
            case rel => exact ⟨k + 1, acc, by omega, by go_num, by omega, HB3.out, HO3.out, HN⟩
            case measure => simp [intOf]; omega
          · have E0 := Lib.hid (fun (g c : Nat) (hv : v3 = .slice (some ⟨g, 0, none⟩) (stF 1 cl).length c) => show w3.cell? ⟨g, 0, none⟩ = some (.string t) from StringL.at_ (by rw [hv] at o3; exact o3) rfl ht)
            have HCT := Lib.hid (count_s _ (stF 1 cl) v3 t w3 o3 (by omega))
            obtain ⟨A4, c4, rfl, h4⟩ := OwnL.shape o3
            obtain ⟨g4, rfl, _, hg4⟩ := h4.resolve_left (by intro h; rw [h] at h0; simp at h0)
            have e0 : w3.cell? ⟨g4, 0, none⟩ = some (.string t) := E0.out g4 _ (by first | rfl | rw [hL])
            have hk2 : decide ((cntF t (stF 1 cl) : Int) < ((stF 1 cl).length : Int)) = true := by unfold confB at hc; rw [hPg, kind_cnt ht] at hc; have := cnt_le t (stF 1 cl); simp at hc ⊢; omega
            have hk4 : cntF t (stF 1 cl) < (stF 1 cl).length := by simpa using hk2
            have HN := ch_yes hlt HK hc
            go_wp2_with (fail)
            refine HCT.out.mono ?_; rintro e' w5 ⟨rfl, rfl⟩
            go_wp2_with (at_builtin; refine wpList_app1 icell 1 icell_len _ rfl _ _ _ rfl w.heap.size 2 i0 (.int .i64 0) 8 Try.underlying32 hi hz0 hz1 hz2 rfl (by decide) _ acc rfl (HO3.out.alloc _) _ 1 (k : Int) rfl ?_ (by simp [icell, Value.oneCell']) (by omega) (by omega) (by simp; omega) ?_; (· intro j u hu; cases j with | zero => (simp [icell] at hu; subst hu; simp) | succ j => simp [icell] at hu); intro v' w5 how2 hg2)
            go_roundw
            case rel => exact ⟨k + 1, acc ++ [(k : Int)], by omega, by go_num, by simp; omega, own_grown_below (HO3.out.alloc _) (Below.alloc HB3.out (by omega) _) hg2 (Nat.le_refl _) (by simp; omega), how2, HN⟩
            case measure => simp [intOf]; omega
        · have hc : confB (goodF k l) = false := by rw [hPg, List.eq_nil_of_length_eq_zero (by omega : (stF 1 cl).length = 0)]; rfl
          have hk3 : decide ((0 : Int) < ((stF 1 cl).length : Int)) = false := decide_eq_false (by omega)
          obtain ⟨A4, c4, rfl, _⟩ := OwnL.shape o3
          have HN := ch_no hlt HK hc
          skip
          go_wp2
          go_roundw
          case rel => exact ⟨k + 1, acc, by omega, by go_num, by omega, HB3.out, HO3.out, HN⟩
          case measure => simp [intOf]; omega
      · go_wp2
        have he := ch_end (by omega) HK
        exact bodyPost_ret (by simp [results, Try.results49, go_sem] <;> rfl) rfl ⟨_, by rw [HF.out], by rw [HF.out, he]; exact ⟨how, fun b hb => (how.lt b hb).2⟩, hb⟩
end Go.Proofs.Ytignjjkldmninaa
