/- l24Reach, l24Set, l24Less, FewestDumps of the reference: the walks. -/
import Derived.Test.YtignjjkldmninaaFewLaw
import Derived.Test.YtignjjkldmninaaHInt64
namespace Go.Proofs.Ytignjjkldmninaa
set_option linter.unusedVariables false
open Go.RowKit
set_option maxHeartbeats 2000000 in
theorem set_s (n b : Nat) (w : World) (hn : n ≤ 5) (hb : b < 32) :
    Calls Try.prog 95 #[.int .i64 n, .int .i64 b] w fun e w' => RetL icell 1 2 w (setG b 0 n) e w' := by
  obtain ⟨i0, hi, hz0, hz1, hz2⟩ := info_parts icell_info
  go_enter Try.func95, Try.ntmps95
  go_wp2
  go_loopw [6, 5] (fun i out wr => ∃ (k : Nat) (acc : List Int), k ≤ n ∧ i = .int .i64 k ∧ acc.length ≤ k ∧ Below w.heap.size w wr ∧ Int64L w.heap.size wr out acc ∧ Hid (setG b 0 n = acc ++ setG b k (n - k))) (fun i _ _ => n - (intOf i).toNat)
  case atStart => exact ⟨0, [], by omega, rfl, by simp, (by repeat (first | exact Below.refl _ _ | refine Below.alloc ?_ (by first | omega | (simp; done) | (simp; omega)) _ | apply Below.drew | apply below_drewN | refine Below.setCell ?_ (by first | omega | (simp; done) | (simp; omega)) _ | refine Below.trans ?_ (Below.mono (by assumption) (by first | omega | (simp; done) | (simp; omega))))), OwnL.of_empty w (Nat.le_refl _), Lib.hid rfl⟩
  case round =>
    obtain ⟨k, acc, hk, rfl, hacc, hbw, how, HK⟩ := hrel
    by_cases hlt : k < n
    · have zr := hbw.size
      have HA := Lib.hid (bit_and b k (by omega))
      cases hc : b.testBit k
      · have HN := set_no hlt HK hc
        have hd : bits .and .i64 ((b : Int) / 2 ^ k) 1 = 0 := by rw [HA.out, hc]; rfl
        go_wp2
        go_roundw
        case rel => exact ⟨k + 1, acc, by omega, by go_num, by omega, hbw, how, HN⟩
        case measure => simp [intOf]; omega
      · have HN := set_yes hlt HK hc
        have hd : bits .and .i64 ((b : Int) / 2 ^ k) 1 = 1 := by rw [HA.out, hc]; rfl
        have HO := Lib.hid how
        clear how
        go_wp2_with (at_builtin; refine wpList_app1 icell 1 icell_len _ rfl _ _ _ rfl w.heap.size 2 i0 (.int .i64 0) 8 Try.underlying32 hi hz0 hz1 hz2 rfl (by decide) _ acc rfl (HO.out.alloc _) _ 1 (k : Int) rfl ?_ (by simp [icell, Value.oneCell']) (by omega) (by omega) (by simp; omega) ?_; (· intro j u hu; cases j with | zero => (simp [icell] at hu; subst hu; simp) | succ j => simp [icell] at hu); intro v' w5 how2 hg2)
        go_roundw
        case rel => exact ⟨k + 1, acc ++ [(k : Int)], by omega, by go_num, by simp; omega, own_grown_below (HO.out.alloc _) (Below.alloc hbw (by omega) _) hg2 (Nat.le_refl _) (by simp; omega), how2, HN⟩
        case measure => simp [intOf]; omega
    · go_wp2
      go_ret
      exact ⟨_, rfl, by rw [set_end (by omega) HK]; exact how, hbw⟩
theorem lx_yes {a b : List Int} {k : Nat} {x y : Int} {X : Bool} (ha : a[k]? = some x) (hb : b[k]? = some y) (H : Hid (X = lexB (a.drop k) (b.drop k))) (h : (x != y) = true) : X = decide (x < y) := by
  obtain ⟨hk, rfl⟩ := List.getElem?_eq_some_iff.1 ha
  obtain ⟨hj, rfl⟩ := List.getElem?_eq_some_iff.1 hb
  rw [H.out, List.drop_eq_getElem_cons hk, List.drop_eq_getElem_cons hj, lexB, if_pos h]
theorem lx_no {a b : List Int} {k : Nat} {x y : Int} {X : Bool} (ha : a[k]? = some x) (hb : b[k]? = some y) (H : Hid (X = lexB (a.drop k) (b.drop k))) (h : (x != y) = false) : Hid (X = lexB (a.drop (k + 1)) (b.drop (k + 1))) := by
  obtain ⟨hk, rfl⟩ := List.getElem?_eq_some_iff.1 ha
  obtain ⟨hj, rfl⟩ := List.getElem?_eq_some_iff.1 hb
  exact Lib.hid (by rw [H.out, List.drop_eq_getElem_cons hk, List.drop_eq_getElem_cons hj, lexB, if_neg (by rw [h]; decide)])
set_option maxHeartbeats 2000000 in
theorem less_s (Ba Bb : Nat) (a b : List Int) (va vb : Value) (w : World) (ha : Int64L Ba w va a) (hb : Int64L Bb w vb b) (hn : a.length ≤ 1048576) (hm : b.length ≤ 1048576) :
    Calls Try.prog 96 #[va, vb] w fun e w' => e = .returned (.bool (lessB a b)) ∧ Qt w w' := by
  unfold lessB
  obtain ⟨A, c, rfl, hA⟩ := OwnL.shape ha
  obtain ⟨A', c', hv', hA'⟩ := OwnL.shape hb
  by_cases hl : a.length = b.length
  · rw [← hl] at hv'
    subst hv'
    have he : (a.length == b.length) = true := by simpa using hl
    have hi : ((a.length : Int) != (a.length : Int)) = false := by simp
    rw [he, if_pos rfl]
    clear he
    by_cases h0 : a = []
    · subst h0
      go_enter Try.func96, Try.ntmps96
      go_wp2
      refine wp_loop_once ?_
      go_wp2
      go_ret
      exact ⟨rfl, Qt.refl _⟩
    · obtain ⟨g, rfl, _, hg⟩ := hA.resolve_left h0
      obtain ⟨g', rfl, _, hg'⟩ := hA'.resolve_left (by rintro rfl; exact h0 (List.eq_nil_of_length_eq_zero (by simpa using hl)))
      have HA := Lib.hid (fun k x (hk : a[k]? = some x) => Int64L.at_ ha rfl hk)
      have HB := Lib.hid (fun k x (hk : b[k]? = some x) => Int64L.at_ hb hl.symm hk)
      have HL := Lib.hid hl
      clear ha hb hA hA' hl
      go_enter Try.func96, Try.ntmps96
      go_wp2
      go_loopw [5] (fun i wr => ∃ k : Nat, k ≤ a.length ∧ i = .int .i64 k ∧ Qt w wr ∧ Hid (lexB a b = lexB (a.drop k) (b.drop k))) (fun i _ => a.length - (intOf i).toNat)
      case atStart => exact ⟨0, by omega, rfl, Qt.refl _, Lib.hid rfl⟩
      case round =>
        obtain ⟨k, hk, rfl, hq, HK⟩ := hrel
        by_cases hlt : k < a.length
        · obtain ⟨x, hx⟩ : ∃ x, a[k]? = some x := ⟨a[k], List.getElem?_eq_getElem hlt⟩
          obtain ⟨y, hy⟩ : ∃ y, b[k]? = some y := ⟨b[k]'(by have := HL.out; omega), List.getElem?_eq_getElem (by have := HL.out; omega)⟩
          have r0 : wr.cell? ⟨g, k, none⟩ = some (.int .i64 x) := (hq.cell _).trans (HA.out k x hx)
          have s0 : wr.cell? ⟨g', k, none⟩ = some (.int .i64 y) := (hq.cell _).trans (HB.out k y hy)
          have j0 : (0 : Int) ≤ (k : Int) := by omega
          have j1 : (k : Int) < (a.length : Int) := by omega
          have HX := Lib.hid hx
          have HY := Lib.hid hy
          clear hx hy
          cases hc : (x != y)
          · have HN := lx_no HX.out HY.out HK hc
            go_wp2
            go_quiet (fail)
            go_wp2
            go_roundw
            case rel => exact ⟨k + 1, by omega, by go_num, hq.drewN _, HN⟩
            case measure => simp [intOf]; omega
          · have HN := Lib.hid (lx_yes HX.out HY.out HK hc)
            go_wp2
            go_quiet (fail)
            go_wp2
            go_quiet (fail)
            go_wp2
            go_ret
            exact ⟨ret_bool HN.out.symm, (hq.drewN _).drewN _⟩
        · have HX := Lib.hid (show lexB a b = false from by rw [HK.out, List.drop_of_length_le (by omega)]; rfl)
          go_wp2
          go_ret
          exact ⟨ret_bool HX.out.symm, hq⟩
  · subst hv'
    have he : (a.length == b.length) = false := by rw [beq_eq_false_iff_ne]; exact hl
    have hi : ((a.length : Int) != (b.length : Int)) = true := by simp; omega
    rw [he, if_neg (by decide)]
    clear he
    by_cases hlt : a.length < b.length
    · have hd : decide (a.length < b.length) = true := decide_eq_true hlt
      go_enter Try.func96, Try.ntmps96
      go_wp2
      go_ret
      exact ⟨ret_bool hd.symm, Qt.refl _⟩
    · have hd : decide (a.length < b.length) = false := decide_eq_false hlt
      go_enter Try.func96, Try.ntmps96
      go_wp2
      go_ret
      exact ⟨ret_bool hd.symm, Qt.refl _⟩
theorem rg_step {b k i : Nat} {l : List Dsc} {d : Dsc} {h : Bool} {X : Bool} (hd : l[i]? = some d) (H : Hid (X = (h || rchG b k i (l.drop i)))) : Hid (X = ((h || (b.testBit i && ((d.secs.getD k secZ).state == 1))) || rchG b k (i + 1) (l.drop (i + 1)))) := by
  obtain ⟨hk, rfl⟩ := List.getElem?_eq_some_iff.1 hd
  exact Lib.hid (by rw [H.out, List.drop_eq_getElem_cons hk, rchG, Bool.or_assoc])
theorem rg_end {b k i : Nat} {l : List Dsc} {h : Bool} {X : Bool} (hi : l.length ≤ i) (H : Hid (X = (h || rchG b k i (l.drop i)))) : X = h := by
  rw [H.out, List.drop_of_length_le hi, rchG, Bool.or_false]
theorem rf_step {l : List Dsc} {b k n x X : Nat} (hk : k < n) (H : Hid (X = x + reachF l b k (n - k))) {r : Bool} (h : rchG b k 0 l = r) : Hid (X = (x + if r = true then 1 else 0) + reachF l b (k + 1) (n - (k + 1))) := by
  have e : n - k = (n - (k + 1)) + 1 := by omega
  exact Lib.hid (by rw [H.out, e, reachF, h, Nat.add_assoc])
theorem rf_end {l : List Dsc} {b k n x X : Nat} (hk : n ≤ k) (H : Hid (X = x + reachF l b k (n - k))) : X = x := by
  rw [H.out, show n - k = 0 by omega, reachF, Nat.add_zero]
set_option maxRecDepth 20000 in
set_option maxHeartbeats 4000000 in
theorem reach_s (B b : Nat) (l : List Dsc) (z : Dsc) (v : Value) (w : World) (h : DscOwn B w v l) (hz : l[0]? = some z) (hn : l.length ≤ 5) (hN : z.secs.length ≤ 128) (hD : ∀ d ∈ l, d.secs.length = z.secs.length) (hb : b < 32) :
    Calls Try.prog 94 #[v, .int .i64 b] w fun e w' => e = .returned (.int .i64 (reachF l b 0 z.secs.length)) ∧ Below w.heap.size w w' := by
  have HD := Lib.hid hD
  have hl1 : 0 < l.length := (List.getElem?_eq_some_iff.1 hz).1
  obtain ⟨A, c, rfl, hA⟩ := h
  obtain ⟨g, rfl, _, hg, hc⟩ := hA.resolve_left (by rintro rfl; cases hz)
  have HC := Lib.hid hc
  obtain ⟨bz, oz, cz⟩ := hc 0 z hz
  have pz : w.cell? ⟨g, 4, none⟩ = some bz := by have := cz 4 bz rfl; simpa using this
  obtain ⟨Az, cz', rfl, _⟩ := OwnL.shape oz
  clear hA hc hz cz oz hD
  go_enter Try.func94, Try.ntmps94
  go_wp2
  go_loopw [6, 5] (fun i n wr => ∃ k x : Nat, k ≤ z.secs.length ∧ x ≤ k ∧ i = .int .i64 k ∧ n = .int .i64 x ∧ Below w.heap.size w wr ∧ Hid (reachF l b 0 z.secs.length = x + reachF l b k (z.secs.length - k))) (fun i _ _ => z.secs.length - (intOf i).toNat)
  case atStart => exact ⟨0, 0, by omega, by omega, rfl, rfl, Below.refl _ _, Lib.hid (by simp)⟩
  case round =>
    obtain ⟨k, x, hk, hxk, rfl, rfl, hbw, HK⟩ := hrel
    have pzr := (hbw.cell (p := ⟨g, 4, none⟩) hg).trans pz
    by_cases hlt : k < z.secs.length
    · have zr := hbw.size
      generalize hwo : wr = wo at *
      clear hwo
      go_wp2
      go_loopw [8, 7] (fun i h wr => ∃ (j : Nat) (r : Bool), j ≤ l.length ∧ i = .int .i64 j ∧ h = .bool r ∧ Below wo.heap.size wo wr ∧ Hid (rchG b k 0 l = (r || rchG b k j (l.drop j)))) (fun i _ _ => l.length - (intOf i).toNat)
      case atStart => exact ⟨0, false, by omega, rfl, rfl, Below.refl _ _, Lib.hid rfl⟩
      case round =>
        obtain ⟨j, r, hj, rfl, rfl, hbq, HR⟩ := hrel
        have zq := hbq.size
        have hbwq := hbw.trans (hbq.mono zr)
        by_cases hjl : j < l.length
        · obtain ⟨d, hd⟩ : ∃ d, l[j]? = some d := ⟨l[j], List.getElem?_eq_getElem hjl⟩
          have hkd : k < d.secs.length := by rw [HD.out d (List.mem_of_getElem? hd)]; exact hlt
          obtain ⟨s, hs⟩ : ∃ s, d.secs[k]? = some s := ⟨d.secs[k], List.getElem?_eq_getElem hkd⟩
          obtain ⟨bv, o1, c1⟩ := HC.out j d hd
          obtain ⟨A2, c2, rfl, hA2⟩ := OwnL.shape o1
          obtain ⟨g2, rfl, _, hg2⟩ := hA2.resolve_left (by intro h0; rw [h0] at hkd; simp at hkd)
          have p4 := (hbwq.cell (p := ⟨g, j * 5 + 4, none⟩) hg).trans (c1 4 _ rfl)
          have s1 : wr.cell? ⟨g2, k * 2 + 1, none⟩ = some (.int .i64 s.state) := (hbwq.cell (p := ⟨g2, _, none⟩) hg2).trans (OwnL.cell Sec.len o1 hs (j := 1) rfl)
          have hgs : (d.secs.getD k secZ).state = s.state := by rw [List.getD_eq_getElem?_getD, hs]; rfl
          have HA := Lib.hid (bit_and b j (by omega))
          have HN := rg_step hd HR
          rw [hgs] at HN
          have e1 : j ≤ 5 := by omega
          clear o1 c1 hd hs
          cases r
          · cases hbit : b.testBit j
            · have hd : bits .and .i64 ((b : Int) / 2 ^ j) 1 = 0 := by rw [HA.out, hbit]; rfl
              rw [hbit] at HN
              go_wp2
              go_roundw
              case rel => exact ⟨j + 1, false, by omega, by go_num, rfl, hbq, HN⟩
              case measure => simp [intOf]; omega
            · have hd : bits .and .i64 ((b : Int) / 2 ^ j) 1 = 1 := by rw [HA.out, hbit]; rfl
              rw [hbit] at HN
              cases hst : s.state == 1
              · rw [hst] at HN
                go_wp2
                go_roundw
                case rel => exact ⟨j + 1, false, by omega, by go_num, rfl, hbq, HN⟩
                case measure => simp [intOf]; omega
              · rw [hst] at HN
                go_wp2
                go_roundw
                case rel => exact ⟨j + 1, true, by omega, by go_num, rfl, hbq, HN⟩
                case measure => simp [intOf]; omega
          · have HN2 : Hid (rchG b k 0 l = (true || rchG b k (j + 1) (l.drop (j + 1)))) := Lib.hid (by rw [HN.out, Bool.true_or, Bool.true_or])
            go_wp2
            go_roundw
            case rel => exact ⟨j + 1, true, by omega, by go_num, rfl, hbq, HN2⟩
            case measure => simp [intOf]; omega
        · have HE := rf_step hlt HK (rg_end (by omega) HR)
          cases r
          · go_wp2
            go_roundw
            case rel => exact ⟨k + 1, x, by omega, by omega, by go_num, rfl, hbwq, HE⟩
            case measure => simp [intOf]; omega
          · go_wp2
            go_roundw
            case rel => exact ⟨k + 1, x + 1, by omega, by omega, by go_num, by go_num, hbwq, HE⟩
            case measure => simp [intOf]; omega
    · have HX := Lib.hid (rf_end (by omega) HK)
      go_wp2
      go_ret
      exact ⟨ret_int (by rw [HX.out]), hbw⟩
theorem sp_yes {cov : Nat → Bool} {st : Nat → List Int} {b : List Int} {x n : Nat} {X : List Int} (hx : x < n) (H : Hid (X = speF cov st b ((List.range n).drop x))) (h : (cov x && lessB (st x) b) = true) : Hid (X = speF cov st (st x) ((List.range n).drop (x + 1))) := by
  have e : (List.range n).drop x = x :: (List.range n).drop (x + 1) := by rw [List.drop_eq_getElem_cons (by simpa using hx)]; simp
  exact Lib.hid (by rw [H.out, e, speF, if_pos h])
theorem sp_no {cov : Nat → Bool} {st : Nat → List Int} {b : List Int} {x n : Nat} {X : List Int} (hx : x < n) (H : Hid (X = speF cov st b ((List.range n).drop x))) (h : (cov x && lessB (st x) b) = false) : Hid (X = speF cov st b ((List.range n).drop (x + 1))) := by
  have e : (List.range n).drop x = x :: (List.range n).drop (x + 1) := by rw [List.drop_eq_getElem_cons (by simpa using hx)]; simp
  exact Lib.hid (by rw [H.out, e, speF, if_neg (by rw [h]; decide)])
theorem sp_end {cov : Nat → Bool} {st : Nat → List Int} {b : List Int} {x n : Nat} {X : List Int} (hx : n ≤ x) (H : Hid (X = speF cov st b ((List.range n).drop x))) : X = b := by
  rw [H.out, List.drop_of_length_le (by simpa using hx), speF]
set_option maxRecDepth 20000 in
set_option maxHeartbeats 4000000 in
theorem few_s (B : Nat) (l : List Dsc) (v : Value) (w : World) (h : DscOwn B w v l) (hn : l.length ≤ 1048576) (hb2 : ∀ d ∈ l, d.secs.length ≤ 1048576) (hm : ∀ d ∈ l, ∀ s ∈ d.secs, s.data.size ≤ maxLen) :
    Calls Try.prog 51 #[v] w fun e w' => RInt64S.retI w (fewE l).1 (fewE l).2 e w' := by
  have HV := Lib.hid (dumpsL_s B l v w h hn hb2 hm)
  cases hok : dumpsOk l
  · have HF : Hid (fewE l = ([], 1)) := Lib.hid (by unfold fewE; rw [hok]; rfl)
    obtain ⟨A, c, rfl, _⟩ := h
    rw [hok] at HV
    go_enter Try.func51, Try.ntmps51
    go_wp2_with (fail)
    refine HV.out.mono ?_; rintro e w1 ⟨rfl, hb1⟩
    go_wp2
    exact bodyPost_ret (v := .tuple #[.slice none 0 0, .int .i64 1]) (by simp [results, Try.results51, go_sem]) rfl ⟨_, by rw [HF.out], by rw [HF.out]; exact ⟨OwnL.of_nil, by simp [Value.ownBlock]⟩, hb1⟩
  · have HF : Hid (fewE l = (speF (fewCov l (l.headD default).secs.length) (fun b => setG b 0 l.length) (setG (2 ^ l.length - 1) 0 l.length) (List.range (2 ^ l.length - 1)), 0)) := Lib.hid (by unfold fewE; rw [hok]; rfl)
    obtain ⟨z, hz⟩ := du_first hok
    have hzd : l.headD default = z := by cases l with | nil => cases hz | cons a r => simpa using hz
    have hN : z.secs.length ≤ 128 := ok_le (du_mem hok hz (List.mem_of_getElem? hz)).1
    have hl5 := du_len hok
    have hl1 : 0 < l.length := (List.getElem?_eq_some_iff.1 hz).1
    have HD := Lib.hid (fun d (hd : d ∈ l) => du_secs hok hz hd)
    rw [hzd] at HF
    have HO := Lib.hid h
    have HZ := Lib.hid hz
    have hp1 : 0 < 2 ^ l.length := Nat.pow_pos (by omega)
    have hp2 : 2 ^ l.length ≤ 2 ^ 5 := Nat.pow_le_pow_right (by omega) hl5
    obtain ⟨al, hal⟩ : ∃ al : Nat, 2 ^ l.length - 1 = al := ⟨_, rfl⟩
    have hal31 : al < 32 := by omega
    have hsh : wrap64 (wrap64 (2 ^ l.length) - 1) = (al : Int) := by
      have : ((2 : Int) ^ l.length) = ((2 ^ l.length : Nat) : Int) := by push_cast; rfl
      rw [this, wrap64_nat _ (by omega), ← hal, show (((2 ^ l.length : Nat) : Int) - 1) = ((2 ^ l.length - 1 : Nat) : Int) by omega, wrap64_nat _ (by omega)]
    rw [hal] at HF
    have HRE := fun b (hb : b < 32) (w' : World) (hbw : Below w.heap.size w w') => reach_s B b l z v w' (HO.out.below hbw) HZ.out hl5 hN HD.out hb
    obtain ⟨A, c, rfl, _⟩ := h
    have HR := Lib.hid HRE
    have hrn := reach_n l al 0 z.secs.length
    have HFC : Hid (∀ b, fewCov l z.secs.length b = decide (reachF l b 0 z.secs.length = reachF l al 0 z.secs.length)) := Lib.hid (fun b => by unfold fewCov; rw [hal])
    rw [hok] at HV
    clear HRE hz hzd hal
    go_enter Try.func51, Try.ntmps51
    go_wp2_with (fail)
    refine HV.out.mono ?_; rintro e w1 ⟨rfl, hb1⟩
    have z1 := hb1.size
    go_wp2_with (fail)
    rw [hsh]
    refine (HR.out al hal31 w1 hb1).mono ?_; rintro e w2 ⟨rfl, hb2'⟩
    have z2 := hb2'.size
    have HB2 := Lib.hid (hb1.trans (hb2'.mono z1))
    go_wp2_with (fail)
    refine (set_s l.length al w2 hl5 hal31).mono ?_; rintro e w3 ⟨v3, rfl, o3, hb3⟩
    have z3 := hb3.size
    have HB3 := Lib.hid (HB2.out.trans (hb3.mono (by omega)))
    go_wp2
    clear hsh
    go_loopw [8, 7] (fun i bb wr => ∃ (b : Nat) (best : List Int), b ≤ al ∧ i = .int .i64 b ∧ best.length ≤ l.length ∧ Below w.heap.size w wr ∧ Int64L w.heap.size wr bb best ∧ Hid (speF (fewCov l z.secs.length) (fun b => setG b 0 l.length) (setG al 0 l.length) (List.range al) = speF (fewCov l z.secs.length) (fun b => setG b 0 l.length) best ((List.range al).drop b))) (fun i _ _ => al - (intOf i).toNat)
    case atStart => exact ⟨0, _, by omega, rfl, set_len _ _ _, HB3.out, OwnL.base o3 (by omega), Lib.hid rfl⟩
    case round =>
      obtain ⟨b, best, hb, rfl, hlb, hbw, how, HK⟩ := hrel
      by_cases hlt : b < al
      · have zr := hbw.size
        have HRB := Lib.hid (HR.out b (by omega) wr hbw)
        have hrb := reach_n l b 0 z.secs.length
        have hfc := HFC.out b
        generalize reachF l b 0 z.secs.length = rb at HRB hrb hfc
        have HOW := Lib.hid how
        clear how
        by_cases hre : rb = reachF l al 0 z.secs.length
        · have hd : ((rb : Int) == (reachF l al 0 z.secs.length : Int)) = true := by rw [hre]; simp
          have hcv : fewCov l z.secs.length b = true := by rw [hfc]; exact decide_eq_true hre
          clear hre hfc
          go_wp2_with (fail)
          refine HRB.out.mono ?_; rintro e' w4 ⟨rfl, hb4⟩
          have z4 := hb4.size
          go_wp2_with (fail)
          refine (set_s l.length b w4 hl5 (by omega)).mono ?_; rintro e' w5 ⟨v5, rfl, o5, hb5⟩
          have z5 := hb5.size
          have HO5 := Lib.hid (OwnL.below (OwnL.below HOW.out hb4) hb5)
          have HB5 := Lib.hid (hbw.trans ((hb4.trans (hb5.mono z4)).mono zr))
          have HLS := Lib.hid (less_s w4.heap.size w.heap.size (setG b 0 l.length) best v5 _ w5 o5 HO5.out (by have := set_len b 0 l.length; omega) (by omega))
          obtain ⟨A5, c5, rfl, _⟩ := OwnL.shape o5
          obtain ⟨A6, c6, rfl, _⟩ := OwnL.shape HO5.out
          cases hls : lessB (setG b 0 l.length) best
          · have HN := sp_no hlt HK (by rw [hcv]; show (true && lessB (setG b 0 l.length) best) = false; rw [hls]; rfl)
            rw [hls] at HLS
            go_wp2_with (fail)
            refine HLS.out.mono ?_; rintro e' w6 ⟨rfl, hq6⟩
            have hb6 : Below w5.heap.size w5 w6 := hq6.below _
            go_wp2
            go_roundw
            case rel => exact ⟨b + 1, best, by omega, by go_num, hlb, HB5.out.trans (hb6.mono (by omega)), OwnL.below HO5.out hb6, HN⟩
            case measure => simp [intOf]; omega
          · have HN := sp_yes hlt HK (by rw [hcv]; show (true && lessB (setG b 0 l.length) best) = true; rw [hls]; rfl)
            rw [hls] at HLS
            go_wp2_with (fail)
            refine HLS.out.mono ?_; rintro e' w6 ⟨rfl, hq6⟩
            have hb6 : Below w5.heap.size w5 w6 := hq6.below _
            have z6 := hb6.size
            have HB6 := Lib.hid (HB5.out.trans (hb6.mono (by omega)))
            go_wp2_with (fail)
            refine (set_s l.length b w6 hl5 (by omega)).mono ?_; rintro e' w7 ⟨v7, rfl, o7, hb7⟩
            go_wp2
            go_roundw
            case rel => exact ⟨b + 1, _, by omega, by go_num, set_len _ _ _, HB6.out.trans (hb7.mono (by omega)), OwnL.base o7 (by omega), HN⟩
            case measure => simp [intOf]; omega
        · have hd : ((rb : Int) == (reachF l al 0 z.secs.length : Int)) = false := by rw [beq_eq_false_iff_ne]; omega
          have hcv : fewCov l z.secs.length b = false := by rw [hfc]; exact decide_eq_false hre
          clear hre hfc
          have HN := sp_no hlt HK (by rw [hcv]; rfl)
          go_wp2_with (fail)
          refine HRB.out.mono ?_; rintro e' w4 ⟨rfl, hb4⟩
          have z4 := hb4.size
          go_wp2
          go_roundw
          case rel => exact ⟨b + 1, best, by omega, by go_num, hlb, hbw.trans (hb4.mono zr), OwnL.below HOW.out hb4, HN⟩
          case measure => simp [intOf]; omega
      · go_wp2
        have he := sp_end (by omega) HK
        exact bodyPost_ret (by simp [results, Try.results51, go_sem] <;> rfl) rfl ⟨_, by rw [HF.out], by rw [HF.out, he]; exact ⟨how, fun b hb => (how.lt b hb).2⟩, hbw⟩
end Go.Proofs.Ytignjjkldmninaa
