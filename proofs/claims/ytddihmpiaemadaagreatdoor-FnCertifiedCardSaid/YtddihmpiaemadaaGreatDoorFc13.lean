/- fills: the walk. -/
import Derived.Test.YtddihmpiaemadaaGreatDoorFc11
import Derived.Test.YtddihmpiaemadaaGreatDoorFc12
import Derived.Test.YtddihmpiaemadaaGreatDoorFc02
namespace Go.Proofs.YtddihmpiaemadaaGreatDoor
set_option linter.unusedVariables false
set_option linter.unusedSimpArgs false
open Go.RowKit
theorem icint_info : (Tryz.prog.info? 3).map (fun i => (i.zero, i.size, i.bytes)) = some (some (.int .i64 0), 1, 8) := by kernel_rfl
theorem u64_andnot (m p : Nat) (hm : m < 18446744073709551616) (hp : p < 64) (hb : m.testBit p = true) : bits .andNot .u64 (m : Int) ((2 ^ p : Nat) : Int) = ((m ^^^ 2 ^ p : Nat) : Int) := by
  have hp2 : 2 ^ p < 2 ^ 64 := Nat.pow_lt_pow_right (by omega) hp
  have hx : m ^^^ 2 ^ p < 2 ^ 64 := Nat.xor_lt_two_pow hm hp2
  have key : (BitVec.ofInt 64 (m : Int) &&& ~~~ BitVec.ofInt 64 ((2 ^ p : Nat) : Int)).toNat = m ^^^ 2 ^ p := by
    refine Nat.eq_of_testBit_eq fun i => ?_
    rw [BitVec.testBit_toNat, BitVec.getLsbD_and, BitVec.getLsbD_not, BitVec.ofInt_natCast, BitVec.ofInt_natCast, BitVec.getLsbD_ofNat, BitVec.getLsbD_ofNat, Nat.testBit_xor, Nat.testBit_two_pow]
    by_cases hi : i < 64
    · by_cases e : p = i
      · subst e; simp [hi, hb]
      · simp [hi, e]
    · have h1 : m.testBit i = false := Nat.testBit_lt_two_pow (Nat.lt_of_lt_of_le (show m < 2 ^ 64 from hm) (Nat.pow_le_pow_right (by omega) (by omega)))
      have e : ¬ p = i := by omega
      simp [hi, h1, e]
  show IntKind.u64.wrap (((BitVec.ofInt 64 (m : Int) &&& ~~~ BitVec.ofInt 64 ((2 ^ p : Nat) : Int)).toNat : Nat) : Int) = _
  rw [key, IntKind.wrap_u64]
  exact Int.emod_eq_of_lt (Int.natCast_nonneg _) (Int.ofNat_lt.2 hx)
theorem or_u8 : ∀ r : Fin 8, ∀ x : Fin 256, x.val.testBit (7 - r.val) = false → bits .or .u8 (x.val : Int) ((128 / 2 ^ r.val : Nat) : Int) = ((x.val ^^^ 128 / 2 ^ r.val : Nat) : Int) := by decide +kernel
theorem or_sh (x r : Nat) (hx : x < 256) (hr : r < 8) (h : x.testBit (7 - r) = false) : bits .or .u8 (x : Int) (128 / 2 ^ r) = ((x ^^^ 128 / 2 ^ r : Nat) : Int) := by
  have := or_u8 ⟨r, hr⟩ ⟨x, hx⟩ h
  rw [← this]; simp
theorem bi_ne (a b : Bool) : (bi a != bi b) = (a != b) := by cases a <;> cases b <;> decide
/-- the fills as strings -/
def outI (l unk : List Nat) (rows : List Rw) (k : Nat) : List ByteArray := (allI l unk rows k).map strN
theorem outI_next (l unk : List Nat) (rows : List Rw) (k : Nat) : outI l unk rows (k + 1) = outI l unk rows k ++ [strN (fillOf l unk top rows (freeU top rows unk.length).reverse k)] := by
  simp [outI, allI, List.range_succ]
theorem outI_len (l unk : List Nat) (rows : List Rw) (k : Nat) : (outI l unk rows k).length = k := by simp [outI, allI]
def filQ (s : ByteArray) (u : List Nat) (most : Nat) (w : World) (X : Option (List Rw)) (e : Ending) (w' : World) : Prop := match X with
  | none => e = .returned (.tuple #[.slice none 0 0, .bool true]) ∧ Below w.heap.size w w'
  | some a => ∃ v', e = .returned (.tuple #[v', .bool (decide ((freeU top a u.length).length < 62 ∧ 2 ^ (freeU top a u.length).length ≤ most))]) ∧ StringL w.heap.size w' v' (outI (bts s) u a (totN most (freeU top a u.length).length)) ∧ Below w.heap.size w w'
theorem wrap_pow_i (k : Nat) (h : k < 62) : IntKind.i64.wrap (2 ^ k) = ((2 ^ k : Nat) : Int) := by
  have hp : 2 ^ k < 4611686018427387904 := Nat.lt_of_lt_of_le (Nat.pow_lt_pow_right (by omega) h) (by decide)
  have e : ((2 : Int) ^ k) = ((2 ^ k : Nat) : Int) := by push_cast; rfl
  rw [e, IntKind.wrap_i64]
  generalize 2 ^ k = N at hp
  omega
set_option maxRecDepth 20000 in
set_option maxHeartbeats 8000000 in
theorem fills_i (s : ByteArray) (u : List Nat) (v : Value) (c most : Nat) (w : World) (h : IntsAt w v (intsN u)) (hu : ∀ b ∈ u, b < 8 * s.size) (hn : u.Nodup) (hs : s.size ≤ 64) (hm : u.length ≤ 64) (hc : c < 65536) (hmost : most ≤ 64) :
    Calls Tryz.prog 114 #[.string s, v, .int .i64 c, .int .i64 most] w fun e w' => filQ s u most w (redI top [] (rowsOf s u c)) e w' := by
  have HR := Lib.hid (rows_i s u v c w h hu hs hm hc)
  have HI := Lib.hid h
  have HX := Lib.hid (fun v1 w' (o : RowsAt .i64 w' v1 (rowsOf s u c)) => red_i (rowsOf s u c) v1 w' o (rowsOf_lt hm) (by rw [rowsOf_len]; omega))
  unfold redQ at HX
  have he : rowsR s.size u (crcN (clrN (bts s) u) 65535 ^^^ c) = rowsOf s u c := rfl
  have hbo := red_both piv_top hm (rowsR_lt s.size u (restOf s u c))
  have he2 : rowsR s.size u (restOf s u c) = rowsOf s u c := rfl
  rw [he2] at hbo
  rw [he] at HR
  obtain ⟨A, cA, rfl, hA⟩ := h
  simp only [intsN_len] at HR HI ⊢
  unfold filQ
  rcases hbo with ⟨h1, h2, _⟩ | ⟨a, b, h1, h2, hra, _, _, hua, _, _, _, hab, hal⟩
  · rw [h1] at HX ⊢
    clear h1 h2 he he2
    generalize rowsOf s u c = R at *
    go_enter Tryz.func114, Tryz.ntmps114
    go_wp2_with (fail)
    refine HR.out.mono ?_; rintro e w2 ⟨v2, rfl, o2, hb2⟩
    have HRA := Lib.hid (RowsAt.own o2)
    obtain ⟨A2, c2, rfl, _⟩ := OwnL.shape o2
    have z2 := hb2.size
    go_wp2_with (fail)
    refine (HX.out _ _ HRA.out).mono ?_; rintro e w3 ⟨v3, rfl, o3, hb3⟩
    go_wp2
    exact bodyPost_ret (v := .tuple #[.slice none 0 0, .bool true]) (by simp [results, Tryz.results114, go_sem] <;> rfl) rfl ⟨rfl, hb2.trans (hb3.mono z2)⟩
  · rw [h1] at HX ⊢
    have hal16 : a.length ≤ 16 := by rw [rowsOf_len] at hal; exact hal
    have hpa : ∀ e ∈ a, top e.m < 64 := fun e he => hra.plt he
    have HPI := Lib.hid (fun k => pivN_lt (p := top) (rows := a.take k) (fun e he => hpa e (List.mem_of_mem_take he)))
    have HRA := Lib.hid hra
    have HM := Lib.hid (fun e (he : e ∈ a) => (show e.m ≠ 0 ∧ e.m < 18446744073709551616 from ⟨fun e0 => (by have := hra.on e he; rw [e0] at this; simp at this), hra.lt e he⟩))
    have HFE := Lib.hid (freeD_end top a u.length)
    have HU := Lib.hid hu
    clear h1 h2 he he2 hab hpa hra hu
    generalize rowsOf s u c = R at *
    go_enter Tryz.func114, Tryz.ntmps114
    go_wp2_with (fail)
    refine HR.out.mono ?_; rintro e w2 ⟨v2, rfl, o2, hb2⟩
    have HRW := Lib.hid (RowsAt.own o2)
    obtain ⟨A2, c2, rfl, _⟩ := OwnL.shape o2
    have z2 := hb2.size
    go_wp2_with (fail)
    refine (HX.out _ _ HRW.out).mono ?_; rintro e w3 ⟨v3, rfl, o3, hb3⟩
    have o3' : RowL .i64 197 w2.heap.size w3 v3 a := o3
    have hR := RowsAt.own o3'
    obtain ⟨Ar, cr, rfl, hR⟩ := hR
    have hb03 := hb2.trans (hb3.mono z2)
    have z3 := hb03.size
    clear o2 o3 o3' hb2 hb3 HR HX HRW
    go_wp2
    go_loopw [40, 12] (fun i x wr => ∃ k : Nat, k ≤ a.length ∧ i = .int .i64 k ∧ x = .int .u64 (pivN top (a.take k) : Nat) ∧ Below w.heap.size w wr ∧ Below w3.heap.size w3 wr) (fun i _ _ => a.length - (intOf i).toNat)
    case atStart => exact ⟨0, by omega, rfl, rfl, hb03, Below.refl _ _⟩
    case round =>
      obtain ⟨k, hk, rfl, rfl, hb, hbo⟩ := hrel
      have zr := hbo.size
      by_cases hlt : k < a.length
      · obtain ⟨e, he⟩ : ∃ e, a[k]? = some e := ⟨a[k], List.getElem?_eq_getElem hlt⟩
        obtain ⟨g, rfl, hg, hcc⟩ := hR.resolve_left (by intro h0; rw [h0] at hlt; simp at hlt)
        have k0 := (hbo.cell (p := ⟨g, _, none⟩) hg).trans (hcc k e he).1
        have k1 := (hbo.cell (p := ⟨g, _, none⟩) hg).trans (hcc k e he).2
        obtain ⟨hm0, hm64⟩ := HM.out e (List.mem_of_getElem? he)
        have HT := Lib.hid (fun W => top_i e.m W hm0 hm64)
        have htl := top_lt hm0 hm64
        have hpw : 2 ^ top e.m < 18446744073709551616 := Nat.lt_of_lt_of_le (Nat.pow_lt_pow_right (by omega) htl) (by decide)
        have hor := u64_or_nat (pivN top (a.take k)) (2 ^ top e.m) (HPI.out k) hpw
        rw [← pivN_next he] at hor
        have hob : Below wr.heap.size wr (wr.alloc (.cells #[.int .u64 e.m, .int .i64 (bi e.r)] 197)) := Below.alloc (Below.refl _ _) (Nat.le_refl _) _
        have hb' := hb.trans (hob.mono hb.size)
        have hbo' := hbo.trans (hob.mono zr)
        generalize hP2 : pivN top (a.take (k + 1)) = P2 at *
        have HP2 := Lib.hid hP2
        generalize pivN top (a.take k) = P1 at *
        generalize 2 ^ top e.m = pw at *
        clear he hcc hP2
        go_wp2_with (fail)
        refine (HT.out _).mono ?_; rintro e5 w5 ⟨rfl, rfl⟩
        go_wp2
        go_roundw
        case rel => exact ⟨k + 1, by omega, by go_num, by rw [HP2.out], hb', hbo'⟩
        case measure => simp [intOf]; omega
      · obtain rfl : k = a.length := by omega
        rw [List.take_length]
        have HPB := Lib.hid (fun j => pivN_bit top a j)
        have hPl := HPI.out a.length
        rw [List.take_length] at hPl
        generalize pivN top a = P at *
        generalize hwo : wr = wo at *; clear hwo
        obtain ⟨i1, hj1, hj2, hj3, hj4⟩ := info_parts icint_info
        have hzo := hb.size
        have hb3o := hbo
        have hz3o := hbo.size
        have HFN := Lib.hid (fun j q (hq : j + 1 + q = u.length) => freeD_next (p := top) (rows := a) hq)
        clear HPI
        go_wp2
        go_loopw [16, 15] (fun i x wr => ∃ j q : Nat, j + q = u.length ∧ i = .int .i64 ((q : Int) - 1) ∧ Below w.heap.size w wr ∧ Below wo.heap.size wo wr ∧ Hid (OwnL icell 1 3 wo.heap.size wr x (intsN (freeD top a u.length j)))) (fun i _ _ => (intOf i + 1).toNat)
        case atStart => exact ⟨0, u.length, by omega, rfl, hb, Below.refl _ _, Lib.hid (by rw [freeD_zero]; exact OwnL.of_nil)⟩
        case round =>
          clear hb hbo zr
          obtain ⟨j, q, hjq, rfl, hb, hbo, HO⟩ := hrel
          have zr := hbo.size
          have hjl := freeD_len top a (u := u.length) (j := j) (by omega)
          obtain ⟨Af, cf, hvf, hAf⟩ := OwnL.shape HO.out
          rw [intsN_len] at hvf
          subst hvf
          cases q with
          | succ q =>
            have eq : ((q + 1 : Nat) : Int) - 1 = (q : Int) := by omega
            rw [eq]
            have hbv := u64_bit P q hPl
            rw [HPB.out] at hbv
            have HN := HFN.out j q (by omega)
            cases hp : isP top a q
            · rw [hp, bi_f] at hbv
              rw [hp, if_neg (by decide)] at HN
              have HN2 := Lib.hid HN
              have hbl : (intsN (freeD top a u.length j)).length + 1 ≤ 16777216 := by rw [intsN_len]; omega
              have hby : (8 : Nat) ≤ 4096 := by decide
              have hbase : wo.heap.size ≤ (wr.alloc (.cells #[.int .i64 (q : Int)] 3)).heap.size := by simp; omega
              generalize freeD top a u.length j = fd at *
              clear hp eq HN
              go_wp2_with (at_builtin; refine wpList_app1 icell 1 icell_len _ rfl _ _ _ rfl wo.heap.size 3 i1 (.int .i64 0) 8 Tryz.underlying198 hj1 hj2 hj3 hj4 rfl (by decide) _ (intsN fd) rfl (HO.out.alloc _) _ 1 (q : Int) rfl ?_ (by simp [icell, Value.oneCell']) hbl hby hbase ?_; (· intro j u hu; cases j with | zero => (simp [icell] at hu; subst hu; simp) | succ j => simp [icell] at hu); intro v' w8 how8 hg8'; have hg8 : Below wo.heap.size wo w8 := own_grown_below (HO.out.alloc (.cells #[.int .i64 (q : Int)] 3)) (Below.alloc hbo zr _) hg8' (Nat.le_refl _) hbase; have hg9 : Below w.heap.size w w8 := own_grown_below (HO.out.alloc (.cells #[.int .i64 (q : Int)] 3)) (Below.alloc hb hb.size _) hg8' hzo (Nat.le_trans hzo hbase))
              go_roundw
              case rel => exact ⟨j + 1, q, by omega, rfl, hg9, hg8, by rw [HN2.out, intsN_app]; exact Lib.hid how8⟩
              case measure => simp [intOf]
            · rw [hp, bi_t] at hbv
              rw [hp, if_pos rfl] at HN
              have HN2 := Lib.hid HN
              clear hp eq HN
              go_wp2
              go_roundw
              case rel => exact ⟨j + 1, q, by omega, rfl, hb, hbo, by rw [HN2.out]; exact HO⟩
              case measure => simp [intOf]
          | zero =>
            obtain rfl : j = u.length := by omega
            rw [HFE.out] at HO hAf ⊢
            rw [show ((0 : Nat) : Int) - 1 = -1 from rfl]
            have HON := Lib.hid (fun k => outI_next (bts s) u a k)
            have hFl : (freeU top a u.length).length = (freeU top a u.length).reverse.length := by simp
            have HFL := Lib.hid hFl
            have hFu : ∀ q ∈ (freeU top a u.length).reverse, q < 64 := fun q hq => by
              have := ((freD top a u.length).mem q).1 hq
              omega
            have HP0 := Lib.hid (fun k => (freD top a u.length).piv0 k)
            have hF64 : (freeU top a u.length).reverse.length ≤ 64 := by
              have := freeD_len top a (u := u.length) (j := u.length) (by omega)
              rw [HFE.out] at this; omega
            generalize hF : (freeU top a u.length).reverse = F at *
            have HFu := Lib.hid hFu
            have HcF : Hid (F = [] ∨ ∃ g, Af = some ⟨g, 0, none⟩ ∧ g < wr.heap.size ∧ ∀ j q : Nat, F[j]? = some q → wr.cell? ⟨g, j, none⟩ = some (.int .i64 (q : Int))) := Lib.hid (by
              rcases hAf with h0 | ⟨g, rfl, _, hg⟩
              · left; have := congrArg List.length h0; rw [intsN_len] at this; exact List.eq_nil_of_length_eq_zero (by simpa using this)
              · right; exact ⟨g, rfl, hg, fun j q hq => by have := OwnL.at1 icell_len HO.out (intsN_get hq) (j := 0) rfl; simpa using this⟩)
            have HcR : Hid (a = [] ∨ ∃ g, Ar = some ⟨g, 0, none⟩ ∧ g < wr.heap.size ∧ ∀ (k : Nat) (e : Rw), a[k]? = some e → wr.cell? ⟨g, k * 2, none⟩ = some (.int .u64 e.m) ∧ wr.cell? ⟨g, k * 2 + 1, none⟩ = some (.int .i64 (bi e.r))) := Lib.hid (by
              rcases hR with h0 | ⟨g, rfl, hg, hc⟩
              · exact .inl h0
              · have hw : Below w3.heap.size w3 wr := hb3o.trans (hbo.mono hz3o)
                exact .inr ⟨g, rfl, Nat.lt_of_lt_of_le hg hw.size, fun k e he => ⟨(hw.cell (p := ⟨g, _, none⟩) hg).trans (hc k e he).1, (hw.cell (p := ⟨g, _, none⟩) hg).trans (hc k e he).2⟩⟩)
            have HIp := Lib.hid (HI.out.below hb)
            have HS0 : Hid (StringL wr.heap.size wr (.slice none 0 0) (outI (bts s) u a 0)) := Lib.hid OwnL.of_nil
            have hbp := hb
            generalize hwp : wr = wp at *; clear hwp
            clear HFN HPB hPl HO hAf hR hbo hb hFl hFu hjl zr HFE HI hF
            have hzp := hbp.size
            obtain ⟨k0, hk0, hks0⟩ := info_parts scell_info
            have hTm : totN most F.length ≤ 64 := by unfold totN; split <;> omega
            go_wp2
            go_loopw [18, 17] (fun i x wr => ∃ k : Nat, k ≤ totN most F.length ∧ i = .int .i64 k ∧ Below wp.heap.size wp wr ∧ Hid (StringL wp.heap.size wr x (outI (bts s) u a k))) (fun i _ _ => totN most F.length - (intOf i).toNat)
            case atStart => exact ⟨0, by omega, rfl, Below.refl _ _, HS0⟩
            case round =>
              clear HS0
              obtain ⟨k, hk, rfl, hb, HO⟩ := hrel
              have zr := hb.size
              obtain ⟨Ao, co, hvo, hAo⟩ := OwnL.shape HO.out
              rw [outI_len] at hvo
              subst hvo
              by_cases hlt : k < totN most F.length
              · -- BODY
                rcases Nat.lt_or_ge F.length 62 with h62 | h62
                · have hT : totN most F.length = min most (2 ^ F.length) := if_neg (Nat.not_le_of_lt h62)
                  have hw1 := wrap_pow_i F.length h62
                  have hw2 : wrap64 (2 ^ F.length) = ((2 ^ F.length : Nat) : Int) := by unfold wrap64; rw [← IntKind.wrap_i64]; exact hw1
                  have hkm : k < most := Nat.lt_of_lt_of_le hlt (by rw [hT]; exact Nat.min_le_left _ _)
                  have hkn : k < 2 ^ F.length := Nat.lt_of_lt_of_le hlt (by rw [hT]; exact Nat.min_le_right _ _)
                  have hk64 : k < 64 := Nat.lt_of_lt_of_le hlt hTm
                  generalize 2 ^ F.length = N at *
                  have hkmi : (k : Int) < (most : Int) := Int.ofNat_lt.2 hkm
                  have hkni : (k : Int) < (N : Int) := Int.ofNat_lt.2 hkn
                  have h62i : (F.length : Int) < 62 := Int.ofNat_lt.2 h62
                  have HW1 := Lib.hid hw1
                  have HW2 := Lib.hid hw2
                  clear hw1 hw2 hT
                  obtain ⟨hk1, hk2, hk3⟩ := hks0
                  have HON2 := Lib.hid (HON.out k)
                  have HSL := Lib.hid (fun i (hi : i ≤ F.length) => selK_lt (n := k) HFu.out hi)
                  have HPV := Lib.hid (HP0.out k)
                  have HFO : Hid (fillOf (bts s) u top a F k = fillK (clrN (bts s) u) u (comp top a (selV F k)).testBit u.length) := Lib.hid rfl
                  have hw1 := HW1.out
                  have hw2 := HW2.out
                  go_wp2
                  clear hw1 hw2
                  generalize hwq : wr = wq at *; clear hwq
                  go_loop [85, 19] (fun i x => ∃ j : Nat, j ≤ F.length ∧ i = .int .i64 j ∧ x = .int .u64 (selK F k j : Nat)) (fun i _ => F.length - (intOf i).toNat)
                  case atStart => exact ⟨0, Nat.zero_le _, rfl, rfl⟩
                  case round =>
                    obtain ⟨j, hj, rfl, rfl⟩ := hrel
                    by_cases hltj : j < F.length
                    · obtain ⟨q, hq⟩ : ∃ q, F[j]? = some q := ⟨F[j], List.getElem?_eq_getElem hltj⟩
                      obtain ⟨gf, rfl, hgf, hcf⟩ := HcF.out.resolve_left (by intro h0; rw [h0] at hltj; simp at hltj)
                      have p0 := (hb.cell (p := ⟨gf, j, none⟩) hgf).trans (hcf j q hq)
                      have hq64 := HFu.out q (List.mem_of_getElem? hq)
                      have hsl := HSL.out j (by omega)
                      by_cases hj62 : j < 62
                      · have hbv := i64_bit k j (by omega)
                        cases hbt : k.testBit j
                        · rw [hbt, bi_f] at hbv
                          have HN := Lib.hid (selK_no (fr := F) hbt)
                          clear hq hcf hbt
                          go_wp2
                          go_round
                          case rel => exact ⟨j + 1, by omega, by go_num, by rw [HN.out]⟩
                          case measure => simp [intOf]; omega
                        · rw [hbt, bi_t] at hbv
                          have hpw : 2 ^ q < 18446744073709551616 := Nat.lt_of_lt_of_le (Nat.pow_lt_pow_right (by omega) hq64) (by decide)
                          have hor := u64_or_nat (selK F k j) (2 ^ q) hsl hpw
                          rw [← selK_yes hq hbt, ← wrap_pow q hq64] at hor
                          generalize hS2 : selK F k (j + 1) = S2 at *
                          have HS2 := Lib.hid hS2
                          generalize selK F k j = S1 at *
                          clear hq hcf hbt hS2 hpw
                          go_wp2
                          go_round
                          case rel => exact ⟨j + 1, by omega, by go_num, by rw [HS2.out]⟩
                          case measure => simp [intOf]; omega
                      · exact absurd (Nat.lt_trans hltj h62) hj62
                    · obtain rfl : j = F.length := by omega
                      have hV0l := HSL.out F.length (Nat.le_refl _)
                      have eV : selK F k F.length = selV F k := rfl
                      rw [eV] at hV0l ⊢
                      have HCK := Lib.hid (fun j => compK_lt (p := top) (rows := a) (V0 := selV F k) (fun e he => HRA.out.plt he) hV0l j)
                      have HPAR := Lib.hid (fun j e (he : a[j]? = some e) => comp_par HRA.out HPV.out he)
                      have HCN := Lib.hid (fun j e (he : a[j]? = some e) => compK_next (p := top) (rows := a) (V0 := selV F k) he)
                      generalize selV F k = V0 at *
                      clear eV HSL HPV hltj
                      go_wp2
                      go_loopw [106, 19] (fun i x wr => ∃ j : Nat, j ≤ a.length ∧ i = .int .i64 j ∧ x = .int .u64 (compK top a V0 j : Nat) ∧ Below wq.heap.size wq wr) (fun i _ _ => a.length - (intOf i).toNat)
                      case atStart => exact ⟨0, Nat.zero_le _, rfl, by rw [compK_zero], Below.refl _ _⟩
                      case round =>
                        obtain ⟨j, hj, rfl, rfl, hbq⟩ := hrel
                        have zq := hbq.size
                        have hbw : Below wp.heap.size wp wr := hb.trans (hbq.mono zr)
                        by_cases hltj : j < a.length
                        · obtain ⟨e, he⟩ : ∃ e, a[j]? = some e := ⟨a[j], List.getElem?_eq_getElem hltj⟩
                          obtain ⟨g, rfl, hg, hcc⟩ := HcR.out.resolve_left (by intro h0; rw [h0] at hltj; simp at hltj)
                          have k0 := (hbw.cell (p := ⟨g, _, none⟩) hg).trans (hcc j e he).1
                          have k1 := (hbw.cell (p := ⟨g, _, none⟩) hg).trans (hcc j e he).2
                          obtain ⟨hm0, hm64⟩ := HM.out e (List.mem_of_getElem? he)
                          have HT := Lib.hid (fun W => top_i e.m W hm0 hm64)
                          have htl := top_lt hm0 hm64
                          have hpw : 2 ^ top e.m < 18446744073709551616 := Nat.lt_of_lt_of_le (Nat.pow_lt_pow_right (by omega) htl) (by decide)
                          have hon := HRA.out.on e (List.mem_of_getElem? he)
                          have hck := HCK.out j
                          have han := u64_andnot e.m (top e.m) hm64 htl hon
                          have hx64 : e.m ^^^ 2 ^ top e.m < 18446744073709551616 := xor64 hm64 hpw
                          have hand := u64_and_nat (e.m ^^^ 2 ^ top e.m) (compK top a V0 j) hx64 hck
                          have hM64 : (e.m ^^^ 2 ^ top e.m) &&& compK top a V0 j < 18446744073709551616 := Nat.lt_of_le_of_lt Nat.and_le_left hx64
                          obtain ⟨pc, hpc, hpb, HPC⟩ := pop_i ((e.m ^^^ 2 ^ top e.m) &&& compK top a V0 j) hM64
                          rw [HPAR.out j e he] at hpb
                          have HPC2 := Lib.hid HPC
                          have hor := u64_or_nat (compK top a V0 j) (2 ^ top e.m) hck hpw
                          have hcn := HCN.out j e he
                          obtain ⟨x0, x1, x2, x3, x4, x5⟩ := box2 wr (.int .u64 e.m) (.int .i64 (bi e.r)) 197
                          have hbq' := hbq.trans (x4.mono zq)
                          generalize hC2 : compK top a V0 (j + 1) = C2 at *
                          have HC2 := Lib.hid hC2
                          generalize compK top a V0 j = C1 at *
                          generalize (e.m ^^^ 2 ^ top e.m) &&& C1 = M at *
                          generalize e.m ^^^ 2 ^ top e.m = X1 at *
                          generalize 2 ^ top e.m = pw at *
                          generalize dot e.m V0.testBit = d at *
                          have hne := bi_ne d e.r
                          clear he hcc hon hC2 HPC
                          go_wp2_with (fail)
                          refine (HT.out _).mono ?_; rintro e5 w5 ⟨rfl, rfl⟩
                          cases hd : (d != e.r)
                          · rw [hd] at hne hcn
                            rw [if_neg (by decide)] at hcn
                            have HCC := Lib.hid hcn
                            clear hd hcn
                            go_wp2
                            refine region_s0 (by kernel_rfl) (by kernel_rfl) (fun w8 hw8 => ?_)
                            rw [← hw8] at x0 x1 x5 hbq'
                            clear hw8 x4 x2 x3
                            repeat still_step
                            still_call (still_c (HPC2.out _))
                            repeat still_step
                            refine wpStill_nil ?_
                            go_wp2
                            go_roundw
                            case rel => exact ⟨j + 1, by omega, by go_num, by rw [HC2.out, HCC.out], hbq'⟩
                            case measure => simp [intOf]; omega
                          · rw [hd] at hne hcn
                            rw [if_pos rfl] at hcn
                            have HCC := Lib.hid hcn
                            clear hd hcn
                            go_wp2
                            refine region_s0 (by kernel_rfl) (by kernel_rfl) (fun w8 hw8 => ?_)
                            rw [← hw8] at x0 x1 x5 hbq'
                            clear hw8 x4 x2 x3
                            repeat still_step
                            still_call (still_c (HPC2.out _))
                            repeat still_step
                            refine wpStill_nil ?_
                            go_wp2
                            go_roundw
                            case rel => exact ⟨j + 1, by omega, by go_num, by rw [HC2.out, HCC.out], hbq'⟩
                            case measure => simp [intOf]; omega
                        · obtain rfl : j = a.length := by omega
                          have hXl := HCK.out a.length
                          rw [compK_end] at hXl ⊢
                          have HFO2 := HFO
                          generalize comp top a V0 = X at *
                          have HCL := Lib.hid (clear_i s u _ wr (HIp.out.below hbw) HU.out (by omega) (by omega))
                          clear HCK HPAR HCN hltj
                          unfold clrQ1 at HCL
                          go_wp2_with (fail)
                          refine HCL.out.mono ?_; rintro e5 w5 ⟨rfl, hb5⟩
                          obtain ⟨cb, wb, hcv, hbuf, hb0, hwz⟩ := buf_of_str w5 (strN (clrN (bts s) u))
                          rw [strN_size, clrN_len, bts_len] at hcv
                          rw [bts_strN (clrN_lt bts_lt)] at hbuf
                          obtain ⟨gb, hgb⟩ : ∃ gb, gb = w5.heap.size := ⟨_, rfl⟩
                          rw [← hgb] at hcv hbuf hwz
                          have z5 := hb5.size
                          have hgz : gb < wb.heap.size := by omega
                          have hgq : wq.heap.size ≤ gb := by omega
                          have hbB : Below wq.heap.size wq wb := (hbq.trans (hb5.mono zq)).trans (hb0.mono (by omega))
                          have HB0 : Hid (Buf wb gb (fillK (clrN (bts s) u) u X.testBit 0)) := Lib.hid hbuf
                          clear hbuf hb0 hwz hgb hb5 HCL
                          go_wp2
                          go_loopw [134] (fun i wr => ∃ j : Nat, j ≤ u.length ∧ i = .int .i64 j ∧ Below wq.heap.size wq wr ∧ gb < wr.heap.size ∧ Hid (Buf wr gb (fillK (clrN (bts s) u) u X.testBit j))) (fun i _ => u.length - (intOf i).toNat)
                          case atStart => exact ⟨0, Nat.zero_le _, rfl, hbB, hgz, HB0⟩
                          case round =>
                            clear HB0 hbB hgz hbw hbq zq
                            obtain ⟨j, hj, rfl, hbq, hgz, HB⟩ := hrel
                            have zq := hbq.size
                            have hbw : Below wp.heap.size wp wr := hb.trans (hbq.mono zr)
                            by_cases hltj : j < u.length
                            · obtain ⟨b, hbj⟩ : ∃ b, u[j]? = some b := ⟨u[j], List.getElem?_eq_getElem hltj⟩
                              have hbs := HU.out b (List.mem_of_getElem? hbj)
                              obtain ⟨A', c', hv, hA'⟩ := HIp.out
                              injection hv with hv hlen hcap
                              clear hlen
                              subst hcap
                              obtain ⟨g, hg1, hg, hcc⟩ := hA'.resolve_left (by intro h0; have := congrArg List.length h0; rw [intsN_len] at this; simp only [List.length_nil] at this; omega)
                              rw [hg1] at hv
                              subst hv
                              have pk := (hbw.cell (p := ⟨g, j, none⟩) hg).trans (hcc j _ (intsN_get hbj))
                              have hbv := u64_bit X j hXl
                              cases hbt : X.testBit j
                              · rw [hbt, bi_f] at hbv
                                have HN := Lib.hid (fillK_no (l := clrN (bts s) u) (unk := u) (x := X.testBit) hbt)
                                clear hbj hcc hbt hg1 hA'
                                go_wp2
                                go_roundw
                                case rel => exact ⟨j + 1, by omega, by go_num, hbq, hgz, by rw [HN.out]; exact HB⟩
                                case measure => simp [intOf]; omega
                              · rw [hbt, bi_t] at hbv
                                obtain ⟨kk, r, hkk, hr, hr8, hbit⟩ := bit_split b
                                have hll : (fillK (clrN (bts s) u) u X.testBit j).length = s.size := by rw [fillK_len, clrN_len]; exact bts_len s
                                obtain ⟨x, hx⟩ : ∃ x, (fillK (clrN (bts s) u) u X.testBit j)[kk]? = some x := ⟨_, List.getElem?_eq_getElem (by omega)⟩
                                obtain ⟨p1, p2⟩ := HB.out kk x hx
                                have hx8 := fillK_lt (clrN_lt bts_lt) j x (List.mem_of_getElem? hx)
                                have hxb : x.testBit (7 - r) = false := by
                                  have := fillK_clear (l := bts s) (x := X.testBit) hn (by rw [bts_len]; exact HU.out) hbj
                                  unfold bitAt at this
                                  rw [hkk, hr, List.getD_eq_getElem?_getD, hx] at this
                                  exact this
                                have HS := Lib.hid (HB.out.set (x ^^^ 128 / 2 ^ r) hx)
                                rw [← flipN_at hkk hr hx, ← fillK_yes hbj hbt] at HS
                                have e1 : ((b : Int) / 8) = (kk : Int) := by omega
                                have e2 : ((b : Int) % 8) = (r : Int) := by omega
                                have e3 : ((b : Int).tmod 8) = (r : Int) := by rw [Int.tmod_eq_emod_of_nonneg (by omega)]; omega
                                have hww : IntKind.i64.wrap (kk : Int) = kk := by rw [IntKind.wrap_i64]; omega
                                have hwr : IntKind.i64.wrap (r : Int) = r := by rw [IntKind.wrap_i64]; omega
                                have hxs := or_sh x r hx8 hr8 hxb
                                have hkk2 : kk < s.size := by omega
                                have hxs8 : bits .or .u8 (x : Int) (128 / 2 ^ min r 8) = ((x ^^^ 128 / 2 ^ r : Nat) : Int) := by rw [Nat.min_eq_left (by omega)]; exact hxs
                                clear hbj hkk hr hbit hx hll hbt hxb hcc hg1 hA'
                                go_wp2
                                have q0 := (show ({ wr with drawn := wr.drawn + 1 } : World).cell? _ = _ from pk)
                                have q1 := (show ({ wr with drawn := wr.drawn + 1 } : World).cell? _ = _ from p1)
                                have q2 := (show ({ wr with drawn := wr.drawn + 1 } : World).frozen? _ = _ from p2)
                                go_still_tail 10, (by kernel_rfl)
                                go_wp2
                                go_roundw
                                case rel => exact ⟨j + 1, by omega, by go_num, Below.setCell (hbq.trans ((Qt.refl wr).drew.below _)) hgq _, by simp; omega, Lib.hid (by first | exact HS.out.block rfl | (rw [hxs8]; exact HS.out.block rfl))⟩
                                case measure => simp [intOf]; omega
                            · obtain rfl : j = u.length := by omega
                              have hst := HB.out.str (n := s.size) (c := cb) (by rw [fillK_len, clrN_len]; exact bts_len s)
                              have HOw := OwnL.below HO.out hbq
                              have hby : (16 : Nat) ≤ 4096 := by decide
                              have hbl : (outI (bts s) u a k).length + 1 ≤ 16777216 := by rw [outI_len]; omega
                              have zw := hbw.size
                              generalize hsr : strN (fillK (clrN (bts s) u) u X.testBit u.length) = sr at *
                              have HSR := Lib.hid hsr
                              clear hsr
                              have hbase : wp.heap.size ≤ (wr.alloc (.cells #[.string sr] 9)).heap.size := by simp; omega
                              clear HB
                              go_wp2_with (at_builtin; refine wpList_app1 scell 1 scell_len _ rfl _ _ _ rfl wp.heap.size 9 k0 (.string .empty) 16 Tryz.underlying26 hk0 hk1 hk2 hk3 rfl (by decide) _ (outI (bts s) u a k) rfl (HOw.alloc _) _ 1 sr rfl ?_ (by simp [scell, Value.oneCell']) hbl hby hbase ?_; (· intro j u hu; cases j with | zero => (simp [scell] at hu; subst hu; simp) | succ j => simp [scell] at hu); intro v' w8 how8 hg8'; have hg8 : Below wp.heap.size wp w8 := own_grown_below (HOw.alloc (.cells #[.string sr] 9)) (Below.alloc hbw zw _) hg8' (Nat.le_refl _) hbase)
                              go_roundw
                              case rel => exact ⟨k + 1, Nat.succ_le_of_lt hlt, by go_num, hg8, by rw [HON2.out, HFO2.out, HSR.out]; exact Lib.hid how8⟩
                              case measure => simp [intOf]; omega
                · have hT : totN most F.length = most := if_pos h62
                  have hkm : k < most := by rw [hT] at hlt; exact hlt
                  have hk64 : k < 64 := Nat.lt_of_lt_of_le hlt hTm
                  have hkmi : (k : Int) < (most : Int) := Int.ofNat_lt.2 hkm
                  have h62i : (62 : Int) ≤ (F.length : Int) := Int.ofNat_le.2 h62
                  clear hT
                  obtain ⟨hk1, hk2, hk3⟩ := hks0
                  have HON2 := Lib.hid (HON.out k)
                  have HSL := Lib.hid (fun i (hi : i ≤ F.length) => selK_lt (n := k) HFu.out hi)
                  have HPV := Lib.hid (HP0.out k)
                  have HFO : Hid (fillOf (bts s) u top a F k = fillK (clrN (bts s) u) u (comp top a (selV F k)).testBit u.length) := Lib.hid rfl
                  go_wp2
                  generalize hwq : wr = wq at *; clear hwq
                  go_loop [85, 19] (fun i x => ∃ j : Nat, j ≤ F.length ∧ i = .int .i64 j ∧ x = .int .u64 (selK F k j : Nat)) (fun i _ => F.length - (intOf i).toNat)
                  case atStart => exact ⟨0, Nat.zero_le _, rfl, rfl⟩
                  case round =>
                    obtain ⟨j, hj, rfl, rfl⟩ := hrel
                    by_cases hltj : j < F.length
                    · obtain ⟨q, hq⟩ : ∃ q, F[j]? = some q := ⟨F[j], List.getElem?_eq_getElem hltj⟩
                      obtain ⟨gf, rfl, hgf, hcf⟩ := HcF.out.resolve_left (by intro h0; rw [h0] at hltj; simp at hltj)
                      have p0 := (hb.cell (p := ⟨gf, j, none⟩) hgf).trans (hcf j q hq)
                      have hq64 := HFu.out q (List.mem_of_getElem? hq)
                      have hsl := HSL.out j (by omega)
                      by_cases hj62 : j < 62
                      · have hbv := i64_bit k j (by omega)
                        cases hbt : k.testBit j
                        · rw [hbt, bi_f] at hbv
                          have HN := Lib.hid (selK_no (fr := F) hbt)
                          clear hq hcf hbt
                          go_wp2
                          go_round
                          case rel => exact ⟨j + 1, by omega, by go_num, by rw [HN.out]⟩
                          case measure => simp [intOf]; omega
                        · rw [hbt, bi_t] at hbv
                          have hpw : 2 ^ q < 18446744073709551616 := Nat.lt_of_lt_of_le (Nat.pow_lt_pow_right (by omega) hq64) (by decide)
                          have hor := u64_or_nat (selK F k j) (2 ^ q) hsl hpw
                          rw [← selK_yes hq hbt, ← wrap_pow q hq64] at hor
                          generalize hS2 : selK F k (j + 1) = S2 at *
                          have HS2 := Lib.hid hS2
                          generalize selK F k j = S1 at *
                          clear hq hcf hbt hS2 hpw
                          go_wp2
                          go_round
                          case rel => exact ⟨j + 1, by omega, by go_num, by rw [HS2.out]⟩
                          case measure => simp [intOf]; omega
                      · have HN := Lib.hid (selK_no (fr := F) (bit_far (n := k) (Nat.lt_trans hk64 (by decide)) (Nat.le_of_not_lt hj62)))
                        clear hq hcf
                        go_wp2
                        go_round
                        case rel => exact ⟨j + 1, by omega, by go_num, by rw [HN.out]⟩
                        case measure => simp [intOf]; omega
                    · obtain rfl : j = F.length := by omega
                      have hV0l := HSL.out F.length (Nat.le_refl _)
                      have eV : selK F k F.length = selV F k := rfl
                      rw [eV] at hV0l ⊢
                      have HCK := Lib.hid (fun j => compK_lt (p := top) (rows := a) (V0 := selV F k) (fun e he => HRA.out.plt he) hV0l j)
                      have HPAR := Lib.hid (fun j e (he : a[j]? = some e) => comp_par HRA.out HPV.out he)
                      have HCN := Lib.hid (fun j e (he : a[j]? = some e) => compK_next (p := top) (rows := a) (V0 := selV F k) he)
                      generalize selV F k = V0 at *
                      clear eV HSL HPV hltj
                      go_wp2
                      go_loopw [106, 19] (fun i x wr => ∃ j : Nat, j ≤ a.length ∧ i = .int .i64 j ∧ x = .int .u64 (compK top a V0 j : Nat) ∧ Below wq.heap.size wq wr) (fun i _ _ => a.length - (intOf i).toNat)
                      case atStart => exact ⟨0, Nat.zero_le _, rfl, by rw [compK_zero], Below.refl _ _⟩
                      case round =>
                        obtain ⟨j, hj, rfl, rfl, hbq⟩ := hrel
                        have zq := hbq.size
                        have hbw : Below wp.heap.size wp wr := hb.trans (hbq.mono zr)
                        by_cases hltj : j < a.length
                        · obtain ⟨e, he⟩ : ∃ e, a[j]? = some e := ⟨a[j], List.getElem?_eq_getElem hltj⟩
                          obtain ⟨g, rfl, hg, hcc⟩ := HcR.out.resolve_left (by intro h0; rw [h0] at hltj; simp at hltj)
                          have k0 := (hbw.cell (p := ⟨g, _, none⟩) hg).trans (hcc j e he).1
                          have k1 := (hbw.cell (p := ⟨g, _, none⟩) hg).trans (hcc j e he).2
                          obtain ⟨hm0, hm64⟩ := HM.out e (List.mem_of_getElem? he)
                          have HT := Lib.hid (fun W => top_i e.m W hm0 hm64)
                          have htl := top_lt hm0 hm64
                          have hpw : 2 ^ top e.m < 18446744073709551616 := Nat.lt_of_lt_of_le (Nat.pow_lt_pow_right (by omega) htl) (by decide)
                          have hon := HRA.out.on e (List.mem_of_getElem? he)
                          have hck := HCK.out j
                          have han := u64_andnot e.m (top e.m) hm64 htl hon
                          have hx64 : e.m ^^^ 2 ^ top e.m < 18446744073709551616 := xor64 hm64 hpw
                          have hand := u64_and_nat (e.m ^^^ 2 ^ top e.m) (compK top a V0 j) hx64 hck
                          have hM64 : (e.m ^^^ 2 ^ top e.m) &&& compK top a V0 j < 18446744073709551616 := Nat.lt_of_le_of_lt Nat.and_le_left hx64
                          obtain ⟨pc, hpc, hpb, HPC⟩ := pop_i ((e.m ^^^ 2 ^ top e.m) &&& compK top a V0 j) hM64
                          rw [HPAR.out j e he] at hpb
                          have HPC2 := Lib.hid HPC
                          have hor := u64_or_nat (compK top a V0 j) (2 ^ top e.m) hck hpw
                          have hcn := HCN.out j e he
                          obtain ⟨x0, x1, x2, x3, x4, x5⟩ := box2 wr (.int .u64 e.m) (.int .i64 (bi e.r)) 197
                          have hbq' := hbq.trans (x4.mono zq)
                          generalize hC2 : compK top a V0 (j + 1) = C2 at *
                          have HC2 := Lib.hid hC2
                          generalize compK top a V0 j = C1 at *
                          generalize (e.m ^^^ 2 ^ top e.m) &&& C1 = M at *
                          generalize e.m ^^^ 2 ^ top e.m = X1 at *
                          generalize 2 ^ top e.m = pw at *
                          generalize dot e.m V0.testBit = d at *
                          have hne := bi_ne d e.r
                          clear he hcc hon hC2 HPC
                          go_wp2_with (fail)
                          refine (HT.out _).mono ?_; rintro e5 w5 ⟨rfl, rfl⟩
                          cases hd : (d != e.r)
                          · rw [hd] at hne hcn
                            rw [if_neg (by decide)] at hcn
                            have HCC := Lib.hid hcn
                            clear hd hcn
                            go_wp2
                            refine region_s0 (by kernel_rfl) (by kernel_rfl) (fun w8 hw8 => ?_)
                            rw [← hw8] at x0 x1 x5 hbq'
                            clear hw8 x4 x2 x3
                            repeat still_step
                            still_call (still_c (HPC2.out _))
                            repeat still_step
                            refine wpStill_nil ?_
                            go_wp2
                            go_roundw
                            case rel => exact ⟨j + 1, by omega, by go_num, by rw [HC2.out, HCC.out], hbq'⟩
                            case measure => simp [intOf]; omega
                          · rw [hd] at hne hcn
                            rw [if_pos rfl] at hcn
                            have HCC := Lib.hid hcn
                            clear hd hcn
                            go_wp2
                            refine region_s0 (by kernel_rfl) (by kernel_rfl) (fun w8 hw8 => ?_)
                            rw [← hw8] at x0 x1 x5 hbq'
                            clear hw8 x4 x2 x3
                            repeat still_step
                            still_call (still_c (HPC2.out _))
                            repeat still_step
                            refine wpStill_nil ?_
                            go_wp2
                            go_roundw
                            case rel => exact ⟨j + 1, by omega, by go_num, by rw [HC2.out, HCC.out], hbq'⟩
                            case measure => simp [intOf]; omega
                        · obtain rfl : j = a.length := by omega
                          have hXl := HCK.out a.length
                          rw [compK_end] at hXl ⊢
                          have HFO2 := HFO
                          generalize comp top a V0 = X at *
                          have HCL := Lib.hid (clear_i s u _ wr (HIp.out.below hbw) HU.out (by omega) (by omega))
                          clear HCK HPAR HCN hltj
                          unfold clrQ1 at HCL
                          go_wp2_with (fail)
                          refine HCL.out.mono ?_; rintro e5 w5 ⟨rfl, hb5⟩
                          obtain ⟨cb, wb, hcv, hbuf, hb0, hwz⟩ := buf_of_str w5 (strN (clrN (bts s) u))
                          rw [strN_size, clrN_len, bts_len] at hcv
                          rw [bts_strN (clrN_lt bts_lt)] at hbuf
                          obtain ⟨gb, hgb⟩ : ∃ gb, gb = w5.heap.size := ⟨_, rfl⟩
                          rw [← hgb] at hcv hbuf hwz
                          have z5 := hb5.size
                          have hgz : gb < wb.heap.size := by omega
                          have hgq : wq.heap.size ≤ gb := by omega
                          have hbB : Below wq.heap.size wq wb := (hbq.trans (hb5.mono zq)).trans (hb0.mono (by omega))
                          have HB0 : Hid (Buf wb gb (fillK (clrN (bts s) u) u X.testBit 0)) := Lib.hid hbuf
                          clear hbuf hb0 hwz hgb hb5 HCL
                          go_wp2
                          go_loopw [134] (fun i wr => ∃ j : Nat, j ≤ u.length ∧ i = .int .i64 j ∧ Below wq.heap.size wq wr ∧ gb < wr.heap.size ∧ Hid (Buf wr gb (fillK (clrN (bts s) u) u X.testBit j))) (fun i _ => u.length - (intOf i).toNat)
                          case atStart => exact ⟨0, Nat.zero_le _, rfl, hbB, hgz, HB0⟩
                          case round =>
                            clear HB0 hbB hgz hbw hbq zq
                            obtain ⟨j, hj, rfl, hbq, hgz, HB⟩ := hrel
                            have zq := hbq.size
                            have hbw : Below wp.heap.size wp wr := hb.trans (hbq.mono zr)
                            by_cases hltj : j < u.length
                            · obtain ⟨b, hbj⟩ : ∃ b, u[j]? = some b := ⟨u[j], List.getElem?_eq_getElem hltj⟩
                              have hbs := HU.out b (List.mem_of_getElem? hbj)
                              obtain ⟨A', c', hv, hA'⟩ := HIp.out
                              injection hv with hv hlen hcap
                              clear hlen
                              subst hcap
                              obtain ⟨g, hg1, hg, hcc⟩ := hA'.resolve_left (by intro h0; have := congrArg List.length h0; rw [intsN_len] at this; simp only [List.length_nil] at this; omega)
                              rw [hg1] at hv
                              subst hv
                              have pk := (hbw.cell (p := ⟨g, j, none⟩) hg).trans (hcc j _ (intsN_get hbj))
                              have hbv := u64_bit X j hXl
                              cases hbt : X.testBit j
                              · rw [hbt, bi_f] at hbv
                                have HN := Lib.hid (fillK_no (l := clrN (bts s) u) (unk := u) (x := X.testBit) hbt)
                                clear hbj hcc hbt hg1 hA'
                                go_wp2
                                go_roundw
                                case rel => exact ⟨j + 1, by omega, by go_num, hbq, hgz, by rw [HN.out]; exact HB⟩
                                case measure => simp [intOf]; omega
                              · rw [hbt, bi_t] at hbv
                                obtain ⟨kk, r, hkk, hr, hr8, hbit⟩ := bit_split b
                                have hll : (fillK (clrN (bts s) u) u X.testBit j).length = s.size := by rw [fillK_len, clrN_len]; exact bts_len s
                                obtain ⟨x, hx⟩ : ∃ x, (fillK (clrN (bts s) u) u X.testBit j)[kk]? = some x := ⟨_, List.getElem?_eq_getElem (by omega)⟩
                                obtain ⟨p1, p2⟩ := HB.out kk x hx
                                have hx8 := fillK_lt (clrN_lt bts_lt) j x (List.mem_of_getElem? hx)
                                have hxb : x.testBit (7 - r) = false := by
                                  have := fillK_clear (l := bts s) (x := X.testBit) hn (by rw [bts_len]; exact HU.out) hbj
                                  unfold bitAt at this
                                  rw [hkk, hr, List.getD_eq_getElem?_getD, hx] at this
                                  exact this
                                have HS := Lib.hid (HB.out.set (x ^^^ 128 / 2 ^ r) hx)
                                rw [← flipN_at hkk hr hx, ← fillK_yes hbj hbt] at HS
                                have e1 : ((b : Int) / 8) = (kk : Int) := by omega
                                have e2 : ((b : Int) % 8) = (r : Int) := by omega
                                have e3 : ((b : Int).tmod 8) = (r : Int) := by rw [Int.tmod_eq_emod_of_nonneg (by omega)]; omega
                                have hww : IntKind.i64.wrap (kk : Int) = kk := by rw [IntKind.wrap_i64]; omega
                                have hwr : IntKind.i64.wrap (r : Int) = r := by rw [IntKind.wrap_i64]; omega
                                have hxs := or_sh x r hx8 hr8 hxb
                                have hkk2 : kk < s.size := by omega
                                have hxs8 : bits .or .u8 (x : Int) (128 / 2 ^ min r 8) = ((x ^^^ 128 / 2 ^ r : Nat) : Int) := by rw [Nat.min_eq_left (by omega)]; exact hxs
                                clear hbj hkk hr hbit hx hll hbt hxb hcc hg1 hA'
                                go_wp2
                                have q0 := (show ({ wr with drawn := wr.drawn + 1 } : World).cell? _ = _ from pk)
                                have q1 := (show ({ wr with drawn := wr.drawn + 1 } : World).cell? _ = _ from p1)
                                have q2 := (show ({ wr with drawn := wr.drawn + 1 } : World).frozen? _ = _ from p2)
                                go_still_tail 10, (by kernel_rfl)
                                go_wp2
                                go_roundw
                                case rel => exact ⟨j + 1, by omega, by go_num, Below.setCell (hbq.trans ((Qt.refl wr).drew.below _)) hgq _, by simp; omega, Lib.hid (by first | exact HS.out.block rfl | (rw [hxs8]; exact HS.out.block rfl))⟩
                                case measure => simp [intOf]; omega
                            · obtain rfl : j = u.length := by omega
                              have hst := HB.out.str (n := s.size) (c := cb) (by rw [fillK_len, clrN_len]; exact bts_len s)
                              have HOw := OwnL.below HO.out hbq
                              have hby : (16 : Nat) ≤ 4096 := by decide
                              have hbl : (outI (bts s) u a k).length + 1 ≤ 16777216 := by rw [outI_len]; omega
                              have zw := hbw.size
                              generalize hsr : strN (fillK (clrN (bts s) u) u X.testBit u.length) = sr at *
                              have HSR := Lib.hid hsr
                              clear hsr
                              have hbase : wp.heap.size ≤ (wr.alloc (.cells #[.string sr] 9)).heap.size := by simp; omega
                              clear HB
                              go_wp2_with (at_builtin; refine wpList_app1 scell 1 scell_len _ rfl _ _ _ rfl wp.heap.size 9 k0 (.string .empty) 16 Tryz.underlying26 hk0 hk1 hk2 hk3 rfl (by decide) _ (outI (bts s) u a k) rfl (HOw.alloc _) _ 1 sr rfl ?_ (by simp [scell, Value.oneCell']) hbl hby hbase ?_; (· intro j u hu; cases j with | zero => (simp [scell] at hu; subst hu; simp) | succ j => simp [scell] at hu); intro v' w8 how8 hg8'; have hg8 : Below wp.heap.size wp w8 := own_grown_below (HOw.alloc (.cells #[.string sr] 9)) (Below.alloc hbw zw _) hg8' (Nat.le_refl _) hbase)
                              go_roundw
                              case rel => exact ⟨k + 1, Nat.succ_le_of_lt hlt, by go_num, hg8, by rw [HON2.out, HFO2.out, HSR.out]; exact Lib.hid how8⟩
                              case measure => simp [intOf]; omega
              · obtain rfl : k = totN most F.length := by omega
                have HTd : Hid (totN most F.length = if 62 ≤ F.length then most else min most (2 ^ F.length)) := Lib.hid rfl
                by_cases h62 : 62 ≤ F.length
                · have hT := HTd.out
                  rw [if_pos h62] at hT
                  rw [hT] at HO ⊢
                  have HTT := Lib.hid hT
                  have hdi : decide ((F.length : Int) < 62) = false := decide_eq_false (by omega)
                  have HDD : Hid (decide (F.length < 62 ∧ 2 ^ F.length ≤ most) = false) := Lib.hid (decide_eq_false (fun h => Nat.not_lt_of_le h62 h.1))
                  clear hT
                  go_wp2
                  go_quiet (fail)
                  go_wp2
                  exact bodyPost_ret (v := .tuple #[.slice Ao most co, .bool false]) (by simp [results, Tryz.results114, go_sem] <;> rfl) rfl ⟨_, by rw [HFL.out, HDD.out], by rw [HFL.out, HTT.out]; exact OwnL.base (OwnL.below HO.out (below_drewN (Below.refl _ _) _)) hzp, below_drewN (hbp.trans (hb.mono hzp)) _⟩
                · have hT := HTd.out
                  rw [if_neg h62] at hT
                  have hlt62 : F.length < 62 := Nat.lt_of_not_le h62
                  have hdi : decide ((F.length : Int) < 62) = true := decide_eq_true (Int.ofNat_lt.2 hlt62)
                  have hdd : (F.length < 62 ∧ 2 ^ F.length ≤ most) ↔ 2 ^ F.length ≤ most := ⟨fun h => h.2, fun h => ⟨Nat.lt_of_not_le h62, h⟩⟩
                  have HDD : Hid (decide (F.length < 62 ∧ 2 ^ F.length ≤ most) = decide (2 ^ F.length ≤ most)) := Lib.hid (decide_eq_decide.2 hdd)
                  have hw1 := wrap_pow_i F.length hlt62
                  have hw2 : wrap64 (2 ^ F.length) = ((2 ^ F.length : Nat) : Int) := by unfold wrap64; rw [← IntKind.wrap_i64]; exact hw1
                  clear hdd
                  generalize hN : 2 ^ F.length = N at *
                  have HNN := Lib.hid hN
                  have HW1 := Lib.hid hw1
                  have HW2 := Lib.hid hw2
                  clear hN hw1 hw2
                  rcases Nat.lt_or_ge N most with hm2 | hm1
                  · have hT2 : totN most F.length = N := by rw [hT]; exact Nat.min_eq_right (Nat.le_of_lt hm2)
                    rw [hT2] at HO ⊢
                    have HTT := Lib.hid hT2
                    have hw1 := HW1.out
                    have hw2 := HW2.out
                    have hm2i : (N : Int) < (most : Int) := Int.ofNat_lt.2 hm2
                    clear hT hT2
                    go_wp2
                    go_quiet (fail)
                    go_wp2
                    exact bodyPost_ret (v := .tuple #[.slice Ao N co, .bool (decide (N ≤ most))]) (by simp [results, Tryz.results114, go_sem] <;> rfl) rfl ⟨_, by rw [HFL.out, HNN.out, HDD.out], by rw [HFL.out, HTT.out]; exact OwnL.base (OwnL.below HO.out (below_drewN (Below.refl _ _) _)) hzp, below_drewN (hbp.trans (hb.mono hzp)) _⟩
                  · have hT2 : totN most F.length = most := by rw [hT]; exact Nat.min_eq_left hm1
                    rw [hT2] at HO ⊢
                    have HTT := Lib.hid hT2
                    have hw1 := HW1.out
                    have hw2 := HW2.out
                    clear hT hT2
                    go_wp2
                    go_quiet (fail)
                    go_wp2
                    exact bodyPost_ret (v := .tuple #[.slice Ao most co, .bool (decide (N ≤ most))]) (by simp [results, Tryz.results114, go_sem] <;> rfl) rfl ⟨_, by rw [HFL.out, HNN.out, HDD.out], by rw [HFL.out, HTT.out]; exact OwnL.base (OwnL.below HO.out (below_drewN (Below.refl _ _) _)) hzp, below_drewN (hbp.trans (hb.mono hzp)) _⟩
end Go.Proofs.YtddihmpiaemadaaGreatDoor
