/- A certificate checked: the plain law. CheckCertificate, impl and spec: the walks. -/
import Derived.Test.YtfcdienphillnaaGreatCk30
import Derived.Test.YtfcdienphillnaaGreatCk44
namespace Go.Proofs.YtfcdienphillnaaGreat
set_option linter.unusedVariables false
set_option linter.unusedSimpArgs false
open Go.RowKit
/-- a sector has a source exactly if it is good -/
def cvS (s : Sec) (kd : Int) : Bool := (s.state == 1 || s.state == 3) && ((kd != 0) == (s.state == 1))
def covB (d : Dsc) (l : List Src) (k : Nat) : Bool := cvS (d.secs.getD k ⟨.empty, 0⟩) (kinN (k : Int) l)
def chkC (e : Evd) (d : Dsc) (l : List Src) : Bool := askB e d l && ((List.range d.secs.length).all (covB d l) && l.all (srcC e d l))
theorem cov_at {d : Dsc} {l : List Src} {k : Nat} {s : Sec} (hs : d.secs[k]? = some s) : covB d l k = cvS s (kinN (k : Int) l) := by
  unfold covB; rw [List.getD_eq_getElem?_getD, hs]; rfl
theorem ck_no1 {e : Evd} {d : Dsc} {l : List Src} (h : askB e d l = false) : chkC e d l = false := by unfold chkC; rw [h]; rfl
theorem ck_no2 {e : Evd} {d : Dsc} {l : List Src} {k : Nat} (hk : k < d.secs.length) (h : covB d l k = false) : chkC e d l = false := by
  have : (List.range d.secs.length).all (covB d l) = false := by
    rw [← Bool.not_eq_true, List.all_eq_true]
    intro hh
    have := hh k (List.mem_range.2 hk)
    rw [h] at this; cases this
  unfold chkC; rw [this, Bool.false_and, Bool.and_false]
theorem ck_no3 {e : Evd} {d : Dsc} {l : List Src} {s : Src} (hs : s ∈ l) (h : srcC e d l s = false) : chkC e d l = false := by
  have : l.all (srcC e d l) = false := by
    rw [← Bool.not_eq_true, List.all_eq_true]
    intro hh
    have := hh s hs
    rw [h] at this; cases this
  unfold chkC; rw [this, Bool.and_false, Bool.and_false]
theorem ck_yes {e : Evd} {d : Dsc} {l : List Src} (h : askB e d l = true) (h1 : ∀ k, k < d.secs.length → covB d l k = true) (h2 : ∀ (i : Nat) (s : Src), l[i]? = some s → srcC e d l s = true) : chkC e d l = true := by
  have a1 : (List.range d.secs.length).all (covB d l) = true := List.all_eq_true.2 fun k hk => h1 k (List.mem_range.1 hk)
  have a2 : l.all (srcC e d l) = true := List.all_eq_true.2 fun s hs => by
    obtain ⟨i, hi⟩ := List.getElem?_of_mem hs
    exact h2 i s hi
  unfold chkC; rw [h, a1, a2]; rfl
theorem cert_gt {last : Int} {r : List Src} (h : certFrom last r = true) : ∀ s ∈ r, last < s.sector := by
  induction r generalizing last with
  | nil => intro s hs; cases hs
  | cons a r ih =>
    rw [certFrom, Bool.and_eq_true] at h
    have h1 := srcOk_iff.1 h.1
    intro s hs
    rcases List.mem_cons.1 hs with rfl | hs
    · omega
    · have := ih h.2 s hs; omega
theorem cnt_eq {last : Int} {r : List Src} (h : certFrom last r = true) (x : Int) : r.countP (fun s => s.sector == x) = if 0 < kinN x r then 1 else 0 := by
  induction r generalizing last with
  | nil => rfl
  | cons a r ih =>
    rw [certFrom, Bool.and_eq_true] at h
    have h1 := srcOk_iff.1 h.1
    have hg := cert_gt h.2
    rw [List.countP_cons]
    unfold kinN
    by_cases e : a.sector = x
    · have hb : (a.sector == x) = true := by simpa using e
      have h0 : r.countP (fun s => s.sector == x) = 0 := by
        rw [List.countP_eq_zero]
        intro s hs
        have := hg s hs
        simp; omega
      rw [h0, if_pos hb, if_pos hb, if_pos (by omega)]
    · have hb : (a.sector == x) = false := by simpa using e
      have hk : (if (a.sector == x) = true then a.kind else kinN x r) = kinN x r := if_neg (by rw [hb]; decide)
      have hc : (if (a.sector == x) = true then (1 : Nat) else 0) = 0 := if_neg (by rw [hb]; decide)
      rw [ih h.2, hk, hc, Nat.add_zero]
/-- the sources of the first sectors -/
def srcN (l : List Src) (k : Nat) : Nat := l.countP fun s => decide (s.sector < (k : Int))
theorem srcN_zero {l : List Src} (h : certOk l = true) : srcN l 0 = 0 := by
  unfold srcN
  rw [List.countP_eq_zero]
  intro s hs
  have := cert_gt h s hs
  simp; omega
theorem srcN_next (l : List Src) (k : Nat) : srcN l (k + 1) = srcN l k + l.countP (fun s => s.sector == (k : Int)) := by
  unfold srcN
  induction l with
  | nil => rfl
  | cons a r ih =>
    rw [List.countP_cons, List.countP_cons, List.countP_cons, ih]
    by_cases h1 : a.sector < (k : Int)
    · have e1 : decide (a.sector < ((k + 1 : Nat) : Int)) = true := decide_eq_true (by omega)
      have e2 : decide (a.sector < (k : Int)) = true := decide_eq_true h1
      have e3 : (a.sector == (k : Int)) = false := by rw [beq_eq_false_iff_ne]; omega
      rw [e1, e2, e3]; simp; omega
    · by_cases h2 : a.sector = (k : Int)
      · have e1 : decide (a.sector < ((k + 1 : Nat) : Int)) = true := decide_eq_true (by omega)
        have e2 : decide (a.sector < (k : Int)) = false := decide_eq_false h1
        have e3 : (a.sector == (k : Int)) = true := by rw [h2]; simp
        rw [e1, e2, e3]; simp; omega
      · have e1 : decide (a.sector < ((k + 1 : Nat) : Int)) = false := decide_eq_false (by omega)
        have e2 : decide (a.sector < (k : Int)) = false := decide_eq_false h1
        have e3 : (a.sector == (k : Int)) = false := by rw [beq_eq_false_iff_ne]; exact h2
        rw [e1, e2, e3]; simp
theorem srcN_yes {l : List Src} (h : certOk l = true) {k : Nat} (hk : 0 < kinN (k : Int) l) : srcN l (k + 1) = srcN l k + 1 := by rw [srcN_next, cnt_eq h, if_pos hk]
theorem srcN_no {l : List Src} (h : certOk l = true) {k : Nat} (hk : ¬ 0 < kinN (k : Int) l) : srcN l (k + 1) = srcN l k := by rw [srcN_next, cnt_eq h, if_neg hk, Nat.add_zero]
theorem srcN_le (l : List Src) (k : Nat) : srcN l k ≤ l.length := List.countP_le_length
theorem ck_many {e : Evd} {d : Dsc} {l : List Src} (hc : certOk l = true) (h : srcN l d.secs.length ≠ l.length) : chkC e d l = false := by
  have : ∃ s ∈ l, ¬ s.sector < (d.secs.length : Int) := by
    apply Classical.byContradiction
    intro hn
    apply h
    unfold srcN
    rw [List.countP_eq_length]
    intro s hs
    apply decide_eq_true
    apply Classical.byContradiction
    intro h2
    exact hn ⟨s, hs, h2⟩
  obtain ⟨s, hs, hlt⟩ := this
  exact ck_no3 hs (src_none (List.getElem?_eq_none (by omega)))
end Go.Proofs.YtfcdienphillnaaGreat
namespace Go.Proofs.YtfcdienphillnaaGreat
set_option linter.unusedVariables false
set_option linter.unusedSimpArgs false
open Go.RowKit
set_option maxRecDepth 20000 in
set_option maxHeartbeats 8000000 in
theorem crt_i (B Bd Bc : Nat) (e : Evd) (va vb vc vd : Value) (d : Dsc) (x : Value) (l : List Src) (y : Value) (w : World) (h : EvOwn B w e va vb vc vd) (hs : EvSmall e) (hd : SecOwn Bd w x d.secs) (hn : d.secs.length ≤ 1048576) (hm : ∀ s ∈ d.secs, s.data.size ≤ maxLen) (hl : OwnL Src.cells 3 83 Bc w y l) (hll : l.length ≤ 1048576) :
    Calls Tryz.prog 20 #[evV va vb vc vd, dscV d x, .agg #[y]] w fun r w' => r = .returned (.bool (chkC e d l)) ∧ Below w.heap.size w w' := by
  have H0 := Lib.hid h
  have HD0 := Lib.hid hd
  have HL0 := Lib.hid hl
  obtain ⟨A, n, B', kk, C, i, D, j, rfl, rfl, rfl, rfl⟩ := h.shape
  obtain ⟨X, c, rfl, hX⟩ := OwnL.shape hd
  obtain ⟨A2, c2, rfl, hA2⟩ := OwnL.shape hl
  obtain ⟨RE, RD, RC, HBZ, zz⟩ := boxes3 w #[.slice A e.ds.length n, .slice B' e.cr.length kk, .slice C e.p.length i, .slice D e.q.length j] #[.int .i64 d.cyl, .int .i64 d.heads, .int .i64 d.per, .int .i64 d.size, .slice X d.secs.length c] #[.slice A2 l.length c2] 39 43 47
  have HCW : Hid (∀ w', Below ((((w.alloc (.cells #[.slice A e.ds.length n, .slice B' e.cr.length kk, .slice C e.p.length i, .slice D e.q.length j] 39)).alloc (.cells #[.int .i64 d.cyl, .int .i64 d.heads, .int .i64 d.per, .int .i64 d.size, .slice X d.secs.length c] 43)).alloc (.cells #[.slice A2 l.length c2] 47))).heap.size (((w.alloc (.cells #[.slice A e.ds.length n, .slice B' e.cr.length kk, .slice C e.p.length i, .slice D e.q.length j] 39)).alloc (.cells #[.int .i64 d.cyl, .int .i64 d.heads, .int .i64 d.per, .int .i64 d.size, .slice X d.secs.length c] 43)).alloc (.cells #[.slice A2 l.length c2] 47)) w' → Row w' w.heap.size [.slice A e.ds.length n, .slice B' e.cr.length kk, .slice C e.p.length i, .slice D e.q.length j] ∧ Row w' (w.heap.size + 1) (dscL d (.slice X d.secs.length c)) ∧ w'.cell? ⟨w.heap.size + 1 + 1, 0, none⟩ = some (.slice A2 l.length c2) ∧ EvOwn B w' e (.slice A e.ds.length n) (.slice B' e.cr.length kk) (.slice C e.p.length i) (.slice D e.q.length j) ∧ SecOwn Bd w' (.slice X d.secs.length c) d.secs ∧ OwnL Src.cells 3 83 Bc w' (.slice A2 l.length c2) l ∧ Below w.heap.size w w') := Lib.hid fun w' hb => by
    have hbw := HBZ.trans (hb.mono (by rw [zz]; omega))
    exact ⟨RE.below hb (by rw [zz]; omega), RD.below hb (by rw [zz]; omega), (RC.below hb (by rw [zz]; omega)) 0 _ rfl, H0.out.below hbw, OwnL.below HD0.out hbw, OwnL.below HL0.out hbw, hbw⟩
  have HV := Lib.hid (ask_i B Bd Bc e _ _ _ _ d (.slice X d.secs.length c) l (.slice A2 l.length c2) (((w.alloc (.cells #[.slice A e.ds.length n, .slice B' e.cr.length kk, .slice C e.p.length i, .slice D e.q.length j] 39)).alloc (.cells #[.int .i64 d.cyl, .int .i64 d.heads, .int .i64 d.per, .int .i64 d.size, .slice X d.secs.length c] 43)).alloc (.cells #[.slice A2 l.length c2] 47)) (H0.out.below HBZ) hs (OwnL.below HD0.out HBZ) hn hm (OwnL.below HL0.out HBZ) hll)
  clear h hd hl RE RD RC
  go_enter Tryz.func20, Tryz.ntmps20
  go_wp2_with (fail)
  generalize (((w.alloc (.cells #[.slice A e.ds.length n, .slice B' e.cr.length kk, .slice C e.p.length i, .slice D e.q.length j] 39)).alloc (.cells #[.int .i64 d.cyl, .int .i64 d.heads, .int .i64 d.per, .int .i64 d.size, .slice X d.secs.length c] 43)).alloc (.cells #[.slice A2 l.length c2] 47)) = w3 at *
  cases hab : askB e d l
  · have HF := Lib.hid (ck_no1 hab)
    rw [hab] at HV
    refine HV.out.mono ?_; rintro r w4 ⟨rfl, hb4⟩
    go_wp2_with (fail)
    go_ret
    exact ⟨ret_bool HF.out.symm, HBZ.trans (hb4.mono (by omega))⟩
  · obtain ⟨P, m, T, F⟩ := ask_f hab
    rw [hab] at HV
    have hTP : 1 ≤ T * P := by obtain ⟨z, E⟩ := F.ev; exact Nat.mul_le_mul E.t1 E.p1
    have hdn := F.secs
    obtain ⟨g, rfl, _, hg⟩ := hX.resolve_left (by intro e; rw [e] at hdn; simp at hdn; omega)
    have HSC := Lib.hid (fun (k : Nat) (s : Sec) (hk : d.secs[k]? = some s) => And.intro (OwnL.cell Sec.len HD0.out hk (j := 0) rfl) (OwnL.cell Sec.len HD0.out hk (j := 1) rfl))
    have HLC := Lib.hid (fun (g : Nat) (hg : A2 = some ⟨g, 0, none⟩) (k : Nat) (s : Src) (j : Nat) (u : Value) (hk : l[k]? = some s) (hu : s.cells[j]? = some u) => (by subst hg; exact OwnL.cell Src.len HL0.out hk hu : w.cell? ⟨g, k * 3 + j, none⟩ = some u))
    have HYES := Lib.hid (fun h1 h2 => ck_yes (e := e) (d := d) (l := l) hab h1 h2)
    clear hdn hX
    refine HV.out.mono ?_; rintro r w4 ⟨rfl, hb4⟩
    obtain ⟨_, E2, _, _, _, _, E7⟩ := HCW.out w4 hb4
    have d4 := E2 4 _ rfl
    clear E2 E7
    go_wp2_with (fail)
    go_loopw [20] (fun ii wr => ∃ k : Nat, k ≤ d.secs.length ∧ ii = .int .i64 k ∧ Below w3.heap.size w3 wr ∧ Hid (∀ j, j < k → covB d l j = true)) (fun ii _ => d.secs.length - (intOf ii).toNat)
    case atStart => exact ⟨0, by omega, rfl, hb4, Lib.hid fun j hj => by omega⟩
    case round =>
      clear d4
      obtain ⟨k, hk, rfl, hb, HM⟩ := hrel
      have zr := hb.size
      obtain ⟨E1, E2, E3, E4, E5, E6, E7⟩ := HCW.out wr hb
      by_cases hlt : k < d.secs.length
      · obtain ⟨s, hsk⟩ : ∃ s, d.secs[k]? = some s := ⟨d.secs[k], List.getElem?_eq_getElem hlt⟩
        obtain ⟨x0, x1⟩ := HSC.out k s hsk
        have y0 := (E7.cell (p := ⟨g, _, none⟩) hg).trans x0
        have y1 := (E7.cell (p := ⟨g, _, none⟩) hg).trans x1
        rw [Nat.add_zero] at y0
        have BS : Below wr.heap.size wr (wr.alloc (.cells #[.string s.data, .int .i64 s.state] 70)) := Below.alloc (Below.refl _ _) (Nat.le_refl _) _
        have RS := Row.alloc wr #[.string s.data, .int .i64 s.state] 70
        have zs : (wr.alloc (.cells #[.string s.data, .int .i64 s.state] 70)).heap.size = wr.heap.size + 1 := by simp
        have hbs := hb.trans (BS.mono zr)
        have HKD := Lib.hid (kind_i Bc l (.slice A2 l.length c2) (k : Int) _ (OwnL.below E6 BS) hll)
        have k0 := (BS.cell (p := ⟨w.heap.size + 1 + 1, 0, none⟩) (World.block_lt_of_cell? wr _ E3)).trans E3
        have HCV := Lib.hid (cov_at (l := l) hsk)
        have HBAD := Lib.hid (fun hh => ck_no2 (e := e) (l := l) hlt hh)
        clear E1 E2 E3 E4 E5 E6 E7 x0 x1 hsk
        go_wp2_with (fail)
        generalize (wr.alloc (.cells #[.string s.data, .int .i64 s.state] 70)) = w5 at *
        generalize kinN (k : Int) l = kd at *
        refine HKD.out.mono ?_; rintro r w6 ⟨rfl, hb6⟩
        have R6 := RS.below hb6 (by omega)
        have t1 : w6.cell? ⟨wr.heap.size, 1, none⟩ = some (.int .i64 s.state) := R6 1 _ rfl
        have hb36 := hbs.trans (hb6.mono (by omega))
        obtain ⟨_, E2, _, _, _, _, E7⟩ := HCW.out w6 hb36
        have BW6 := E7
        clear E2 E7 y0 y1 k0 HKD R6 RS
        have hst : s.state = 1 ∨ s.state = 3 ∨ (s.state ≠ 1 ∧ s.state ≠ 3) := by omega
        cases h0 : (kd != 0)
        · rcases hst with h1 | h1 | ⟨h1, h3⟩
          · have hx1 : (s.state != 1) = false := by rw [h1]; rfl
            have hx2 : (s.state == 1) = true := by rw [h1]; rfl
            have HF := Lib.hid (HBAD.out (by rw [HCV.out]; unfold cvS; rw [h0, hx2]; simp))
            clear h1
            go_wp2_with (fail)
            go_ret
            exact ⟨ret_bool HF.out.symm, BW6⟩
          · have hx1 : (s.state != 1) = true := by rw [h1]; rfl
            have hx2 : (s.state == 1) = false := by rw [h1]; rfl
            have hx3 : (s.state != 3) = false := by rw [h1]; rfl
            have HN : Hid (∀ j, j < k + 1 → covB d l j = true) := Lib.hid fun j hj => by
              by_cases e : j = k
              · subst e; rw [HCV.out]; unfold cvS; rw [h0, h1]; rfl
              · exact HM.out j (by omega)
            clear h1
            go_wp2_with (fail)
            go_roundw
            case rel => exact ⟨k + 1, by omega, by go_num, hb36, HN⟩
            case measure => simp [intOf]; omega
          · have hx1 : (s.state != 1) = true := by simpa using h1
            have hx3 : (s.state != 3) = true := by simpa using h3
            have HF := Lib.hid (HBAD.out (by rw [HCV.out]; unfold cvS; rw [beq_eq_false_iff_ne.2 h1, beq_eq_false_iff_ne.2 h3]; rfl))
            clear h1 h3
            go_wp2_with (fail)
            go_ret
            exact ⟨ret_bool HF.out.symm, BW6⟩
        · rcases hst with h1 | h1 | ⟨h1, h3⟩
          · have hx1 : (s.state != 1) = false := by rw [h1]; rfl
            have hx2 : (s.state == 1) = true := by rw [h1]; rfl
            have HN : Hid (∀ j, j < k + 1 → covB d l j = true) := Lib.hid fun j hj => by
              by_cases e : j = k
              · subst e; rw [HCV.out]; unfold cvS; rw [h0, h1]; rfl
              · exact HM.out j (by omega)
            clear h1
            go_wp2_with (fail)
            go_roundw
            case rel => exact ⟨k + 1, by omega, by go_num, hb36, HN⟩
            case measure => simp [intOf]; omega
          · have hx1 : (s.state != 1) = true := by rw [h1]; rfl
            have hx2 : (s.state == 1) = false := by rw [h1]; rfl
            have hx3 : (s.state != 3) = false := by rw [h1]; rfl
            have HF := Lib.hid (HBAD.out (by rw [HCV.out]; unfold cvS; rw [h0, hx2]; simp))
            clear h1
            go_wp2_with (fail)
            go_ret
            exact ⟨ret_bool HF.out.symm, BW6⟩
          · have hx1 : (s.state != 1) = true := by simpa using h1
            have hx3 : (s.state != 3) = true := by simpa using h3
            have HF := Lib.hid (HBAD.out (by rw [HCV.out]; unfold cvS; rw [beq_eq_false_iff_ne.2 h1, beq_eq_false_iff_ne.2 h3]; rfl))
            clear h1 h3
            go_wp2_with (fail)
            go_ret
            exact ⟨ret_bool HF.out.symm, BW6⟩
      · have HCV := Lib.hid (fun j (hj : j < d.secs.length) => HM.out j (by omega))
        have k0 := E3
        clear E1 E2 E3 E4 E5 E6 E7
        go_wp2_with (fail)
        go_loopw [48] (fun ii wx => ∃ q : Nat, q ≤ l.length ∧ ii = .int .i64 q ∧ Below w3.heap.size w3 wx ∧ Hid (∀ (j : Nat) (s : Src), j < q → l[j]? = some s → srcC e d l s = true)) (fun ii _ => l.length - (intOf ii).toNat)
        case atStart => exact ⟨0, by omega, rfl, hb, Lib.hid fun j s hj => by omega⟩
        case round =>
          clear k0
          obtain ⟨q, hq, rfl, hbx, HS⟩ := hrel
          have zx := hbx.size
          obtain ⟨E1, E2, E3, E4, E5, E6, E7⟩ := HCW.out wr hbx
          by_cases hltq : q < l.length
          · obtain ⟨s, hsq⟩ : ∃ s, l[q]? = some s := ⟨l[q], List.getElem?_eq_getElem hltq⟩
            obtain ⟨ga, rfl, _, hga⟩ := hA2.resolve_left (by intro h0; rw [h0] at hltq; simp at hltq)
            have y0 := (E7.cell (p := ⟨ga, _, none⟩) hga).trans (HLC.out ga rfl q s 0 _ hsq rfl)
            have y1 := (E7.cell (p := ⟨ga, _, none⟩) hga).trans (HLC.out ga rfl q s 1 _ hsq rfl)
            have y2 := (E7.cell (p := ⟨ga, _, none⟩) hga).trans (HLC.out ga rfl q s 2 _ hsq rfl)
            rw [Nat.add_zero] at y0
            have BS : Below wr.heap.size wr (wr.alloc (.cells #[.int .i64 s.kind, .int .i64 s.sector, .int .i64 s.dump] 83)) := Below.alloc (Below.refl _ _) (Nat.le_refl _) _
            have hbs := hbx.trans (BS.mono zx)
            obtain ⟨G1, G2, G3, G4, G5, G6, G7⟩ := HCW.out _ hbs
            have HSI := Lib.hid (src_i B Bd Bc e _ _ _ _ d (.slice (some ⟨g, 0, none⟩) d.secs.length c) l (.slice (some ⟨ga, 0, none⟩) l.length c2) s q P m T _ hsq F G4 G5 G6 hll)
            have c0 := G1 0 _ rfl
            have c1 := G1 1 _ rfl
            have c2' := G1 2 _ rfl
            have c3 := G1 3 _ rfl
            have e0 := G2 0 _ rfl
            have e1 := G2 1 _ rfl
            have e2 := G2 2 _ rfl
            have e3 := G2 3 _ rfl
            have e4 := G2 4 _ rfl
            have HBAD := Lib.hid (fun hh => ck_no3 (e := e) (d := d) (List.mem_of_getElem? hsq) hh)
            have HSQ := Lib.hid hsq
            clear E1 E2 E3 E4 E5 E6 E7 G1 G2 G4 G5 G6 hsq
            cases hsc : srcC e d l s
            · have HF := Lib.hid (HBAD.out hsc)
              rw [hsc] at HSI
              go_wp2_with (fail)
              refine HSI.out.mono ?_; rintro r w6 ⟨rfl, hb6⟩
              go_wp2_with (fail)
              go_ret
              exact ⟨ret_bool HF.out.symm, G7.trans (hb6.mono G7.size)⟩
            · have HN : Hid (∀ (j : Nat) (s : Src), j < q + 1 → l[j]? = some s → srcC e d l s = true) := Lib.hid fun j t hj ht => by
                by_cases e : j = q
                · subst e
                  have := HSQ.out
                  rw [ht] at this
                  obtain rfl := Option.some.inj this
                  exact hsc
                · exact HS.out j t (by omega) ht
              rw [hsc] at HSI
              go_wp2_with (fail)
              refine HSI.out.mono ?_; rintro r w6 ⟨rfl, hb6⟩
              go_wp2_with (fail)
              go_roundw
              case rel => exact ⟨q + 1, by omega, by go_num, hbs.trans (hb6.mono hbs.size), HN⟩
              case measure => simp [intOf]; omega
          · have HF := Lib.hid (HYES.out HCV.out (fun j s hs => HS.out j s (by have := (List.getElem?_eq_some_iff.1 hs).1; omega) hs))
            clear E1 E2 E3 E4 E5 E6
            go_wp2_with (fail)
            go_ret
            exact ⟨ret_bool HF.out.symm, E7⟩
end Go.Proofs.YtfcdienphillnaaGreat
