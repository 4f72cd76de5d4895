/- CheckSource, the implementation: the walk. Parity of a certificate: the walks of the reference. -/
import Derived.Test.YtfcdienphillnaaGreatCk41
import Derived.Test.YtfcdienphillnaaGreatCk40
import Derived.Deep.AppendLies
namespace Go.Proofs.YtfcdienphillnaaGreat
set_option linter.unusedVariables false
set_option linter.unusedSimpArgs false
open Go.RowKit
theorem size_src (A : Option Addr) (n c : Nat) (w : World) (hn : n ≤ 1048576) : Calls Tryz.prog 52 #[.slice A n c] w fun e w' => e = .returned (.int .i64 n) ∧ w = w' := by
  go_enter Tryz.func52, Tryz.ntmps52
  go_wp2
  go_ret
  exact ⟨rfl, rfl⟩
theorem chk_no1 {e : Evd} {d : Dsc} {l : List Src} {k : Int} (h : askB e d l = false) : chkS e d l k = false := by unfold chkS; rw [h]; rfl
theorem chk_no2 {e : Evd} {d : Dsc} {l : List Src} {k : Int} (h : inB k 0 ((l.length : Int) - 1) = false) : chkS e d l k = false := by unfold chkS; rw [h, Bool.false_and, Bool.and_false]
theorem chk_yes {e : Evd} {d : Dsc} {l : List Src} {k : Nat} {s : Src} (h : askB e d l = true) (h2 : inB (k : Int) 0 ((l.length : Int) - 1) = true) (hs : l[k]? = some s) : chkS e d l (k : Int) = srcC e d l s := by
  unfold chkS; rw [h, h2]
  show (match l[k]? with | none => false | some s => srcC e d l s) = _
  rw [hs]
set_option maxRecDepth 20000 in
set_option maxHeartbeats 8000000 in
theorem chk_i (B Bd Bc : Nat) (e : Evd) (va vb vc vd : Value) (d : Dsc) (x : Value) (l : List Src) (y : Value) (k : Int) (w : World) (h : EvOwn B w e va vb vc vd) (hs : EvSmall e) (hd : SecOwn Bd w x d.secs) (hn : d.secs.length ≤ 1048576) (hm : ∀ s ∈ d.secs, s.data.size ≤ maxLen) (hl : OwnL Src.cells 3 83 Bc w y l) (hll : l.length ≤ 1048576) :
    Calls Tryz.prog 15 #[evV va vb vc vd, dscV d x, .agg #[y], .int .i64 k] w fun r w' => r = .returned (.bool (chkS e d l k)) ∧ Below w.heap.size w w' := by
  have H0 := Lib.hid h
  have HD0 := Lib.hid hd
  have HL0 := Lib.hid hl
  obtain ⟨A, n, B', kk, C, i, D, j, rfl, rfl, rfl, rfl⟩ := h.shape
  obtain ⟨X, c, rfl, _⟩ := OwnL.shape hd
  obtain ⟨A2, c2, rfl, hA2⟩ := OwnL.shape hl
  obtain ⟨RE, RD, RC, HBZ, zz⟩ := boxes3 w #[.slice A e.ds.length n, .slice B' e.cr.length kk, .slice C e.p.length i, .slice D e.q.length j] #[.int .i64 d.cyl, .int .i64 d.heads, .int .i64 d.per, .int .i64 d.size, .slice X d.secs.length c] #[.slice A2 l.length c2] 39 43 47
  have HV := Lib.hid (fun (q : Wb (((w.alloc (.cells #[.slice A e.ds.length n, .slice B' e.cr.length kk, .slice C e.p.length i, .slice D e.q.length j] 39)).alloc (.cells #[.int .i64 d.cyl, .int .i64 d.heads, .int .i64 d.per, .int .i64 d.size, .slice X d.secs.length c] 43)).alloc (.cells #[.slice A2 l.length c2] 47))) => ask_i B Bd Bc e _ _ _ _ d (.slice X d.secs.length c) l (.slice A2 l.length c2) q.1 (H0.out.below (HBZ.trans (q.2.mono (by rw [zz]; omega)))) hs (OwnL.below HD0.out (HBZ.trans (q.2.mono (by rw [zz]; omega)))) hn hm (OwnL.below HL0.out (HBZ.trans (q.2.mono (by rw [zz]; omega)))) hll)
  have HIN := Lib.hid (fun (w' : World) => within_i k 0 ((l.length : Int) - 1) w')
  clear h hd hl
  go_enter Tryz.func15, Tryz.ntmps15
  go_wp2_with (fail)
  generalize (((w.alloc (.cells #[.slice A e.ds.length n, .slice B' e.cr.length kk, .slice C e.p.length i, .slice D e.q.length j] 39)).alloc (.cells #[.int .i64 d.cyl, .int .i64 d.heads, .int .i64 d.per, .int .i64 d.size, .slice X d.secs.length c] 43)).alloc (.cells #[.slice A2 l.length c2] 47)) = w3 at *
  have f0 : ∀ q : Wb w3, q.1.cell? ⟨w.heap.size, 0, none⟩ = _ := fun q => Wb.cell (RE 0 _ rfl) q
  have f1 : ∀ q : Wb w3, q.1.cell? ⟨w.heap.size, 1, none⟩ = _ := fun q => Wb.cell (RE 1 _ rfl) q
  have f2 : ∀ q : Wb w3, q.1.cell? ⟨w.heap.size, 2, none⟩ = _ := fun q => Wb.cell (RE 2 _ rfl) q
  have f3 : ∀ q : Wb w3, q.1.cell? ⟨w.heap.size, 3, none⟩ = _ := fun q => Wb.cell (RE 3 _ rfl) q
  have g0 : ∀ q : Wb w3, q.1.cell? ⟨w.heap.size + 1, 0, none⟩ = _ := fun q => Wb.cell (RD 0 _ rfl) q
  have g1 : ∀ q : Wb w3, q.1.cell? ⟨w.heap.size + 1, 1, none⟩ = _ := fun q => Wb.cell (RD 1 _ rfl) q
  have g2 : ∀ q : Wb w3, q.1.cell? ⟨w.heap.size + 1, 2, none⟩ = _ := fun q => Wb.cell (RD 2 _ rfl) q
  have g3 : ∀ q : Wb w3, q.1.cell? ⟨w.heap.size + 1, 3, none⟩ = _ := fun q => Wb.cell (RD 3 _ rfl) q
  have g4 : ∀ q : Wb w3, q.1.cell? ⟨w.heap.size + 1, 4, none⟩ = _ := fun q => Wb.cell (RD 4 _ rfl) q
  have k0 : ∀ q : Wb w3, q.1.cell? ⟨w.heap.size + 1 + 1, 0, none⟩ = _ := fun q => Wb.cell (RC 0 _ rfl) q
  clear RE RD RC
  have HC : Hid (Nat → True) := Lib.hid fun _ => trivial
  cases hab : askB e d l
  · have HF := Lib.hid (chk_no1 (k := k) hab)
    rw [hab] at HV
    refine wp_region_wb (by kernel_rfl) (by kernel_rfl) ?_; (repeat (go_big_quiet_step (first | (go_at_call 50; exact Wb.calls (HV.out _)) | (go_at_call 52; exact Wb.same (size_src _ _ _ _ hll)) | (go_at_call 51; exact Wb.same (HIN.out _)) | (go_at_call 53; exact Wb.calls (HC.out _))))); refine wpQuiet_nil ?_; rintro w5 ⟨⟨w5', hb5⟩, rfl⟩
    go_wp2_with (fail)
    go_ret
    exact ⟨ret_bool HF.out.symm, HBZ.trans (hb5.mono (by omega))⟩
  · obtain ⟨P, m, T, F⟩ := ask_f hab
    cases hin : inB k 0 ((l.length : Int) - 1)
    · have HF := Lib.hid (chk_no2 (e := e) (d := d) hin)
      rw [hab] at HV
      rw [hin] at HIN
      refine wp_region_wb (by kernel_rfl) (by kernel_rfl) ?_; (repeat (go_big_quiet_step (first | (go_at_call 50; exact Wb.calls (HV.out _)) | (go_at_call 52; exact Wb.same (size_src _ _ _ _ hll)) | (go_at_call 51; exact Wb.same (HIN.out _)) | (go_at_call 53; exact Wb.calls (HC.out _))))); refine wpQuiet_nil ?_; rintro w5 ⟨⟨w5', hb5⟩, rfl⟩
      go_wp2_with (fail)
      go_ret
      exact ⟨ret_bool HF.out.symm, HBZ.trans (hb5.mono (by omega))⟩
    · have hkb := inB_yes hin
      obtain ⟨q, rfl⟩ : ∃ q : Nat, k = (q : Int) := ⟨k.toNat, by omega⟩
      have hql : q < l.length := by omega
      obtain ⟨s, hsq⟩ : ∃ s, l[q]? = some s := ⟨l[q], List.getElem?_eq_getElem hql⟩
      have HF := Lib.hid (chk_yes hab hin hsq)
      obtain ⟨g, rfl, _, hg⟩ := hA2.resolve_left (by intro h0; rw [h0] at hql; simp at hql)
      have y0 : ∀ x : Wb w3, x.1.cell? ⟨g, q * 3, none⟩ = some (.int .i64 s.kind) := fun x => Wb.cell ((HBZ.cell (p := ⟨g, _, none⟩) hg).trans (OwnL.cell Src.len HL0.out hsq (j := 0) rfl)) x
      have y1 : ∀ x : Wb w3, x.1.cell? ⟨g, q * 3 + 1, none⟩ = some (.int .i64 s.sector) := fun x => Wb.cell ((HBZ.cell (p := ⟨g, _, none⟩) hg).trans (OwnL.cell Src.len HL0.out hsq (j := 1) rfl)) x
      have y2 : ∀ x : Wb w3, x.1.cell? ⟨g, q * 3 + 2, none⟩ = some (.int .i64 s.dump) := fun x => Wb.cell ((HBZ.cell (p := ⟨g, _, none⟩) hg).trans (OwnL.cell Src.len HL0.out hsq (j := 2) rfl)) x
      clear HC
      have HC := Lib.hid (fun (x : Wb w3) => src_i B Bd Bc e _ _ _ _ d (.slice X d.secs.length c) l (.slice (some ⟨g, 0, none⟩) l.length c2) s q P m T x.1 hsq F (H0.out.below (HBZ.trans (x.2.mono (by omega)))) (OwnL.below HD0.out (HBZ.trans (x.2.mono (by omega)))) (OwnL.below HL0.out (HBZ.trans (x.2.mono (by omega)))) hll)
      rw [hab] at HV
      rw [hin] at HIN
      have hq1 : (q : Int) < (l.length : Int) := by omega
      clear hsq hkb hin hA2
      refine wp_region_wb (by kernel_rfl) (by kernel_rfl) ?_; (repeat (go_big_quiet_step (first | (go_at_call 50; exact Wb.calls (HV.out _)) | (go_at_call 52; exact Wb.same (size_src _ _ _ _ hll)) | (go_at_call 51; exact Wb.same (HIN.out _)) | (go_at_call 53; exact Wb.calls (HC.out _))))); refine wpQuiet_nil ?_; rintro w5 ⟨⟨w5', hb5⟩, rfl⟩
      go_wp2_with (fail)
      go_ret
      exact ⟨ret_bool HF.out.symm, HBZ.trans (hb5.mono (by omega))⟩
end Go.Proofs.YtfcdienphillnaaGreat
namespace Go.Proofs.YtfcdienphillnaaGreat
set_option linter.unusedVariables false
set_option linter.unusedSimpArgs false
open Go.RowKit
def rsB (pt qt : ByteArray) (G : List ByteArray × Int) : Bool := !(decide (pt.size = 0) && decide (qt.size = 0)) && (G.2 == 0)
theorem rsB_none {pt qt : ByteArray} {G : List ByteArray × Int} (h1 : pt.size = 0) (h2 : qt.size = 0) : rsB pt qt G = false := by unfold rsB; rw [decide_eq_true h1, decide_eq_true h2]; rfl
theorem rsB_p {pt qt : ByteArray} {G : List ByteArray × Int} (h1 : ¬ pt.size = 0) : rsB pt qt G = (G.2 == 0) := by unfold rsB; rw [decide_eq_false h1]; rfl
theorem rsB_q {pt qt : ByteArray} {G : List ByteArray × Int} (h1 : ¬ qt.size = 0) : rsB pt qt G = (G.2 == 0) := by unfold rsB; rw [decide_eq_false h1, Bool.and_false]; rfl
theorem step_appP {P : Program} {α : Type} (f : α → List Value) (z : Nat) (hf : ∀ a, (f a).length = z) (w : World) {ops : Array Oper} {o : Oper} {a : Act} {K : Act → World → Prop} {Q : Exit → Act → World → Prop} {E : Prop} (hgd : o.guard = none) (s x : Operand) (t : TypeId)
    (ho : o.op = .call { callee := .builtin .append, args := #[s, x], argTypes := #[t, t] })
    (B : Nat) (e : TypeId) (i : TypeInfo) (zv : Value) (bytes : Nat) (ht : P.underlying t = some (.slice e)) (hi : P.info? e = some i) (hz : i.zero = some zv)
    (hsize : i.size = z) (hby : i.bytes = bytes) (hzs : zv.cells.size = z) (hsz : 0 < z)
    (v : Value) (l : List α) (hs : a.eval s = v) (hown : OwnL f z e B w v l)
    (gx c : Nat) (el : α) (hx : a.eval x = .slice (some ⟨gx, 0, none⟩) 1 c) (hnews : ∀ j u, (f el)[j]? = some u → w.cell? ⟨gx, j, none⟩ = some u) (h1 : ∀ u ∈ f el, u.oneCell' = true)
    (hn : l.length + 1 ≤ 16777216) (hbytes : bytes ≤ 4096) (hbase : B ≤ w.heap.size)
    (h : ∀ g cap w', OwnL f z e B w' (.slice (some ⟨g, 0, none⟩) (l.length + 1) cap) (l ++ [el]) → w.grownBy w' v.ownBlock → (v.ownBlock = some g ∨ g = w.heap.size) → K (a.put o.dst (.slice (some ⟨g, 0, none⟩) (l.length + 1) cap)) w') :
    if Region.wanted o (yielded ops a.tmps) = true then Oper.wp P o a w K Q else E := by
  refine step_append_lies w hgd s x t ho B e i zv z bytes ht hi hz hsize hby hzs hsz v l.length (flat f l) hs hown ⟨gx, 0, none⟩ 1 c (f el) hx (by rw [hf]; omega) ?_ h1 (by omega) (by unfold maxLen; omega) ?_ hbase _ rfl ?_
  · intro j u hu
    have e2 : (⟨gx, 0, none⟩ : Addr).add j = ⟨gx, j, none⟩ := by unfold Addr.add; split <;> simp_all
    rw [e2]; exact hnews j u hu
  · have : (l.length + 1) * bytes ≤ 16777216 * 4096 := Nat.mul_le_mul hn hbytes
    omega
  · intro g cap w' h2 h3 h4 _
    refine h g cap w' ?_ h3 h4
    unfold OwnL
    rw [flat_app, List.length_append]
    simpa [flat] using h2
set_option maxRecDepth 20000 in
set_option maxHeartbeats 8000000 in
theorem rest_s (B Bd gb gd : Nat) (e : Evd) (va vb vc vd : Value) (d : Dsc) (x : Value) (L : List Int) (vl : Value) (t P o : Nat) (w : World) (hx : EvBox gb w va vb vc vd) (h : EvOwn B w e va vb vc vd) (hdx : Row w gd (dscL d x)) (hgd : gd < w.heap.size) (hd : SecOwn Bd w x d.secs) (hl : IntsAt w vl L) (hLn : L.length ≤ 1048576)
    (hP : d.per = P) (hP1 : 1 ≤ P) (hPm : P ≤ 1048576) (ho : t * P = o) (ht : o + P ≤ d.secs.length) (hn : d.secs.length ≤ 1048576) (htm : t ≤ 1048576)
    (pt qt : ByteArray) (hpt : e.p[t]? = some pt) (hqt : e.q[t]? = some qt) (hps : pt.size ≤ 1048576) (hqs : qt.size ≤ 1048576) :
    Calls Tryz.prog 119 #[.pointer (some ⟨gb, 0, none⟩), .pointer (some ⟨gd, 0, none⟩), .int .i64 t, vl] w fun r w' => ∃ v', r = .returned (.tuple #[v', .bool (rsB pt qt (r2E (blkF d o P) L pt qt))]) ∧ (rsB pt qt (r2E (blkF d o P) L pt qt) = true → StringL w.heap.size w' v' (r2E (blkF d o P) L pt qt).1) ∧ Below w.heap.size w w' := by
  obtain ⟨s0, si, sz0, sz1, sz2⟩ := info_parts scell_info
  obtain ⟨A, n, B', kk, C, i, D, j, rfl, rfl, rfl, rfl⟩ := h.shape
  obtain ⟨X, c, rfl, hX⟩ := OwnL.shape hd
  obtain ⟨g, rfl, _, hg⟩ := hX.resolve_left (by intro e; rw [e] at ht; simp at ht; omega)
  obtain ⟨Cp, ip, hCp, hCA⟩ := OwnL.shape h.p
  injection hCp with e1 _ e2
  subst e1 e2
  obtain ⟨gp, rfl, _, hgp⟩ := hCA.resolve_left (by intro e; rw [e] at hpt; cases hpt)
  obtain ⟨Dq, jq, hDq, hDA⟩ := OwnL.shape h.q
  injection hDq with e1 _ e2
  subst e1 e2
  obtain ⟨gq, rfl, _, hgq⟩ := hDA.resolve_left (by intro e; rw [e] at hqt; cases hqt)
  have cp := StringL.at_ h.p rfl hpt
  have cq := StringL.at_ h.q rfl hqt
  have htp : t < e.p.length := (List.getElem?_eq_some_iff.1 hpt).1
  have htq : t < e.q.length := (List.getElem?_eq_some_iff.1 hqt).1
  have hgb := World.block_lt_of_cell? w _ hx.c0
  have b2 := hx.c2
  have b3 := hx.c3
  have HB2 := Lib.hid b2
  have HB3 := Lib.hid b3
  have HP := Lib.hid cp
  have HQ := Lib.hid cq
  have h3 : (t : Int) * (P : Int) = (o : Int) := by rw [← ho]; rfl
  have HSC := Lib.hid (fun (k : Nat) (s : Sec) (hk : d.secs[k]? = some s) => OwnL.cell Sec.len hd hk (j := 0) rfl)
  have HD2 : Hid (∀ w', Below w.heap.size w w' → w'.cell? ⟨gd, 2, none⟩ = some (.int .i64 (P : Int))) := Lib.hid fun w' hb => by rw [← hP]; exact (hdx.below hb hgd) 2 _ rfl
  have HD4 : Hid (∀ w', Below w.heap.size w w' → w'.cell? ⟨gd, 4, none⟩ = some (.slice (some ⟨g, 0, none⟩) d.secs.length c)) := Lib.hid fun w' hb => (hdx.below hb hgd) 4 _ rfl
  have HIL := Lib.hid (show ∀ w', Below w.heap.size w w' → IntsAt w' vl L from fun w' hb => by
    obtain ⟨A', c', rfl, hA'⟩ := hl
    refine ⟨_, _, rfl, hA'.imp id ?_⟩
    rintro ⟨g, rfl, hg, hc⟩
    exact ⟨g, rfl, Nat.lt_of_lt_of_le hg hb.size, fun k x hk => (hb.cell (p := ⟨g, k, none⟩) hg).trans (hc k x hk)⟩)
  obtain ⟨Al, cl, rfl, _⟩ := hl
  by_cases hboth : pt.size = 0 ∧ qt.size = 0
  · have HF := Lib.hid (rsB_none (G := r2E (blkF d o P) L pt qt) hboth.1 hboth.2)
    have h1 := emp_nil hboth.1
    have h2 := emp_nil hboth.2
    have h1' : pt.toList.isEmpty = true := by rw [h1]; rfl
    have h2' : qt.toList.isEmpty = true := by rw [h2]; rfl
    clear h hd hX hCA hDA hpt hqt ho hx hdx hboth
    go_enter Tryz.func119, Tryz.ntmps119
    go_wp2_with (fail)
    exact bodyPost_ret (v := .tuple #[.slice none 0 0, .bool false]) (by simp [results, Tryz.results119, go_sem] <;> rfl) rfl ⟨.slice none 0 0, by rw [HF.out], (fun hh => absurd (HF.out.symm.trans hh) (by decide)), Below.refl _ _⟩
  · have HF : Hid (rsB pt qt (r2E (blkF d o P) L pt qt) = ((r2E (blkF d o P) L pt qt).2 == 0)) := Lib.hid (by
      by_cases e : pt.size = 0
      · exact rsB_q (fun e2 => hboth ⟨e, e2⟩)
      · exact rsB_p e)
    have HE : (pt.toList = [] ∧ pt.toList.isEmpty = true ∧ ¬ qt.toList = [] ∧ qt.toList.isEmpty = false) ∨ (¬ pt.toList = [] ∧ pt.toList.isEmpty = false) := by
      by_cases e : pt.size = 0
      · have h1 := emp_nil e
        have h2 := emp_ne (s := qt) (fun e2 => hboth ⟨e, e2⟩)
        exact .inl ⟨h1, by rw [h1]; rfl, h2, by simpa using h2⟩
      · have h1 := emp_ne e
        exact .inr ⟨h1, by simpa using h1⟩
    clear h hd hX hCA hDA hpt hqt ho hx hdx hboth
    go_enter Tryz.func119, Tryz.ntmps119
    rcases HE with ⟨h1, h1', h2, h2'⟩ | ⟨h1, h1'⟩
    all_goals go_wp2_with (fail)
    all_goals clear b2 b3 cp cq
    all_goals
      go_loopw [11, 10] (fun ii out wx => ∃ (q : Nat) (acc : List ByteArray), q ≤ P ∧ ii = .int .i64 q ∧ acc.length = q ∧ Below w.heap.size w wx ∧ StringL w.heap.size wx out acc ∧ Hid (acc = blkF d o q)) (fun ii _ _ => P - (intOf ii).toNat)
      case atStart => exact ⟨0, [], by omega, rfl, rfl, Below.alloc (Below.refl _ _) (Nat.le_refl _) _, OwnL.of_empty w (Nat.le_refl _), Lib.hid (by unfold blkF; simp)⟩
      case round =>
        obtain ⟨q, bl, hq, rfl, hql, hbx, how, HBL⟩ := hrel
        have zx := hbx.size
        have dd2 := HD2.out wr hbx
        have dd4 := HD4.out wr hbx
        by_cases hltq : q < P
        · obtain ⟨s, hs⟩ : ∃ s, d.secs[o + q]? = some s := ⟨d.secs[o + q]'(by omega), List.getElem?_eq_getElem (by omega)⟩
          have f0 := (hbx.cell (p := ⟨g, _, none⟩) hg).trans (HSC.out (o + q) s hs)
          simp only [Nat.add_zero] at f0
          have HN := blk_next hs HBL
          have HO : Hid (StringL w.heap.size wr.drew _ bl) := Lib.hid (OwnL.below how (Below.refl _ _).drew)
          have HBB : Below w.heap.size w wr.drew := hbx.drew
          clear how hs
          obtain ⟨oq, hoq⟩ : ∃ oq, oq = o + q := ⟨_, rfl⟩
          have hcast : ((o : Int) + (q : Int)) = (oq : Int) := by omega
          have hi1 : (oq : Int) < (d.secs.length : Int) := by omega
          have hi2 : oq < d.secs.length := by omega
          have hw1 : IntKind.i64.wrap (o : Int) = (o : Int) := by rw [IntKind.wrap_i64]; omega
          have hw2 : IntKind.i64.wrap (oq : Int) = (oq : Int) := by rw [IntKind.wrap_i64]; omega
          rw [← hoq] at f0
          clear hoq
          go_wp2_with (fail)
          have HOa := Lib.hid (HO.out.alloc (.cells #[.string s.data] 9))
          have HRA := Lib.hid (Row.alloc wr.drew #[.string s.data] 9)
          have hone : ∀ u ∈ scell s.data, u.oneCell' = true := by simp [scell, Value.oneCell']
          have hl1 : bl.length + 1 ≤ 16777216 := by omega
          have hbase : w.heap.size ≤ (wr.drew.alloc (.cells #[.string s.data] 9)).heap.size := by simp; omega
          have HBA : Hid (Below w.heap.size w (wr.drew.alloc (.cells #[.string s.data] 9))) := Lib.hid (HBB.alloc (by show w.heap.size ≤ wr.heap.size; omega) _)
          go_region_law (refine step_appP scell 1 scell_len _ (by rfl) _ _ _ (by rfl) w.heap.size 9 s0 (.string .empty) 16 Tryz.underlying24 si sz0 sz1 sz2 rfl (by decide) u10 bl (by rfl) HOa.out _ 1 s.data (by rfl) HRA.out hone hl1 (by decide) hbase ?_; intro g6 c6 w6 how6 hg6 hat6; have HB6 := Lib.hid (own_grown_below HOa.out HBA.out hg6 (Nat.le_refl _) hbase); have HO6 := Lib.hid how6; clear how6 hg6 hat6)
          all_goals
            go_wp2_with (fail)
            go_roundw
            case rel => exact ⟨q + 1, bl ++ [s.data], by omega, by go_num, by simp; omega, HB6.out, by have h6 := HO6.out; rw [hql] at h6; exact h6, HN⟩
            case measure => simp [intOf]; omega
        · obtain rfl : P = q := by omega
          have HO := Lib.hid how
          have pp2 := (hbx.cell (p := ⟨gb, 2, none⟩) hgb).trans HB2.out
          have pp3 := (hbx.cell (p := ⟨gb, 3, none⟩) hgb).trans HB3.out
          have pp := (hbx.cell (p := ⟨gp, t, none⟩) hgp).trans HP.out
          have qq := (hbx.cell (p := ⟨gq, t, none⟩) hgq).trans HQ.out
          have HBE := Lib.hid HBL.out.symm
          have HK6 : Hid (∀ w', Below wr.drew.heap.size wr.drew w' → w'.cell? ⟨gb, 2, none⟩ = some (.slice (some ⟨gp, 0, none⟩) e.p.length i) ∧ w'.cell? ⟨gb, 3, none⟩ = some (.slice (some ⟨gq, 0, none⟩) e.q.length j) ∧ w'.cell? ⟨gp, t, none⟩ = some (.string pt) ∧ w'.cell? ⟨gq, t, none⟩ = some (.string qt)) := Lib.hid fun w' hb => ⟨(hb.cell (p := ⟨gb, 2, none⟩) (by show gb < wr.heap.size; omega)).trans pp2, (hb.cell (p := ⟨gb, 3, none⟩) (by show gb < wr.heap.size; omega)).trans pp3, (hb.cell (p := ⟨gp, t, none⟩) (by show gp < wr.heap.size; omega)).trans pp, (hb.cell (p := ⟨gq, t, none⟩) (by show gq < wr.heap.size; omega)).trans qq⟩
          have HEQ : r2E (blkF d o P) L pt qt = r2E bl L pt qt := by rw [HBE.out]
          rw [HEQ] at HF
          have HRT := Lib.hid (r2_s _ bl L pt qt _ _ wr.drew (OwnL.below HO.out (Below.refl _ _).drew) (HIL.out wr.drew hbx.drew) (by omega) (by omega) hps hqs)
          have HLN := Lib.hid (fun (hh : (r2E bl L pt qt).2 = 0) => r2_out hh)
          obtain ⟨A8, k8, rfl, hA8⟩ := OwnL.shape how
          rw [hql] at HRT
          generalize r2E bl L pt qt = G at *
          have HEQ := Lib.hid HEQ
          clear how hA8 HBL HBE dd4 HIL
          go_wp2_with (fail)
          go_region_held3 (fun w' => w'.cell? ⟨gb, 2, none⟩ = some (.slice (some ⟨gp, 0, none⟩) e.p.length i) ∧ w'.cell? ⟨gb, 3, none⟩ = some (.slice (some ⟨gq, 0, none⟩) e.q.length j) ∧ w'.cell? ⟨gp, t, none⟩ = some (.string pt) ∧ w'.cell? ⟨gq, t, none⟩ = some (.string qt))
            (first | exact ⟨pp2, pp3, pp, qq⟩ | exact HK6.out _ hb6)
            (first | (go_at_call 142; refine HRT.out.mono ?_; rintro r w6 ⟨v6, rfl, ho6, hb6⟩; have HB6 := Lib.hid ((Below.refl wr.heap.size wr).drew.trans hb6); have HO6 := Lib.hid ho6.1))
          clear ho6 hb6
          clear pp2 pp3 pp qq HRT HK6
          all_goals
            have z6 := HB6.out.size
            have hb7 := hbx.trans (HB6.out.mono zx)
            have dd6 := HD2.out w6 hb7
            cases hcd : (G.2 == 0)
            · obtain ⟨A6, k6, rfl, _⟩ := OwnL.shape HO6.out
              rw [hcd] at HF
              go_wp2_with (fail)
              go_quiet (fail)
              go_wp2_with (fail)
              exact bodyPost_ret (v := .tuple #[.slice A6 G.1.length k6, .bool false]) (by simp [results, Tryz.results119, go_sem] <;> rfl) rfl ⟨.slice A6 G.1.length k6, by rw [HEQ.out, HF.out], (fun hh => by rw [HEQ.out, HF.out] at hh; cases hh), below_drewNQ hb7 _⟩
            · have hg1 : G.1.length = P := (HLN.out (by simpa using hcd)).trans hql
              obtain ⟨A6, k6, rfl, _⟩ := OwnL.shape HO6.out
              rw [hcd] at HF
              rw [hg1]
              go_wp2_with (fail)
              go_quiet (fail)
              go_wp2_with (fail)
              exact bodyPost_ret (v := .tuple #[.slice A6 P k6, .bool true]) (by simp [results, Tryz.results119, go_sem] <;> rfl) rfl ⟨.slice A6 P k6, by rw [HEQ.out, HF.out], (fun _ => by rw [HEQ.out, ← hg1]; exact OwnL.below (OwnL.base HO6.out (by show w.heap.size ≤ wr.heap.size; omega)) (below_drewNQ (Below.refl _ _) _)), below_drewNQ hb7 _⟩
end Go.Proofs.YtfcdienphillnaaGreat
