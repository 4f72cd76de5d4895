/- Parity of a certificate: the walks of the implementation. Parity of a certificate: the walks of the reference. Sources sorted in place, strictly by sector. -/
import Derived.Test.YtfcdienphillnaaGreatLr23
import Derived.Test.YtfcdienphillnaaGreatLr24
import Derived.Test.YtfcdienphillnaaGreatLr26
import Derived.Test.YtfcdienphillnaaGreatLr21
import Derived.StillTailTactics
import Derived.Deep.AppendLies
import Derived.Shelf.SlSortCmp.WholeK
import Derived.Shelf.SlSortCmp.NoneTotal
namespace Go.Proofs.YtfcdienphillnaaGreat
set_option linter.unusedVariables false
set_option linter.unusedSimpArgs false
open Go.RowKit
theorem own_cap {α : Type} {f : α → List Value} {z : Nat} {e : TypeId} {B g n c : Nat} {w : World} {l : List α} (h : OwnL f z e B w (.slice (some ⟨g, 0, none⟩) n c) l) : n ≤ c := by
  rcases h.2 with ⟨e, _⟩ | ⟨g', cap, cur, e, _, _, h1, _⟩
  · cases e
  · have e1 : n = l.length := by injection e
    have e2 : c = cap := by injection e
    omega
theorem track_i (d : Dsc) (g c : Nat) (t P o : Nat) (w : World) (ho : t * P = o) (ht : o + P ≤ d.secs.length) (hn : d.secs.length ≤ 1048576) (hcap : d.secs.length ≤ c) (ht2 : t ≤ 1048576) (hP2 : 1 ≤ P) :
    Calls Tryz.prog 126 #[.agg #[.int .i64 d.cyl, .int .i64 d.heads, .int .i64 (P : Int), .int .i64 d.size, .slice (some ⟨g, 0, none⟩) d.secs.length c], .int .i64 t] w fun r w' => r = .returned (.slice (some ⟨g, o * 2, none⟩) P (c - o)) ∧ Below w.heap.size w w' := by
  have h1 : ((t : Int) + 1) * (P : Int) = ((o + P : Nat) : Int) := by rw [Int.add_mul, Int.one_mul, ← ho]; rfl
  have h3 : (t : Int) * (P : Int) = (o : Int) := by rw [← ho]; rfl
  have hne : ¬ c = o := by omega
  have hsub : o + P - o = P := by omega
  clear ho
  go_enter Tryz.func126, Tryz.ntmps126
  go_wp2
  all_goals first | (exfalso; omega) | (go_ret; exact ⟨congrArg (fun z => Ending.returned (.slice (some ⟨g, o * 2, none⟩) z (c - o))) hsub, Below.alloc (Below.refl _ _) (Nat.le_refl _) _⟩)
theorem boxes3 (w : World) (E D C : Array Value) (te td tc : TypeId) :
    Row (((w.alloc (.cells E te)).alloc (.cells D td)).alloc (.cells C tc)) w.heap.size E.toList ∧ Row (((w.alloc (.cells E te)).alloc (.cells D td)).alloc (.cells C tc)) (w.heap.size + 1) D.toList ∧ Row (((w.alloc (.cells E te)).alloc (.cells D td)).alloc (.cells C tc)) (w.heap.size + 2) C.toList ∧ Below w.heap.size w (((w.alloc (.cells E te)).alloc (.cells D td)).alloc (.cells C tc)) ∧ (((w.alloc (.cells E te)).alloc (.cells D td)).alloc (.cells C tc)).heap.size = w.heap.size + 3 := by
  have s1 : (w.alloc (.cells E te)).heap.size = w.heap.size + 1 := by simp
  have s2 : ((w.alloc (.cells E te)).alloc (.cells D td)).heap.size = w.heap.size + 2 := by simp
  have r1 := Row.alloc w E te
  have r2 := Row.alloc (w.alloc (.cells E te)) D td
  have r3 := Row.alloc ((w.alloc (.cells E te)).alloc (.cells D td)) C tc
  have b2 : Below (w.alloc (.cells E te)).heap.size (w.alloc (.cells E te)) ((w.alloc (.cells E te)).alloc (.cells D td)) := Below.alloc (Below.refl _ _) (Nat.le_refl _) _
  have b3 : Below ((w.alloc (.cells E te)).alloc (.cells D td)).heap.size ((w.alloc (.cells E te)).alloc (.cells D td)) (((w.alloc (.cells E te)).alloc (.cells D td)).alloc (.cells C tc)) := Below.alloc (Below.refl _ _) (Nat.le_refl _) _
  have r1' := (r1.below b2 (by omega)).below b3 (by omega)
  have r2' := r2.below b3 (by omega)
  rw [s1] at r2'
  rw [s2] at r3
  exact ⟨r1', r2', r3, (((Below.refl _ _).alloc (Nat.le_refl _) _).alloc (by omega) _).alloc (by omega) _, by simp⟩
end Go.Proofs.YtfcdienphillnaaGreat
namespace Go.Proofs.YtfcdienphillnaaGreat
set_option linter.unusedVariables false
set_option linter.unusedSimpArgs false
open Go.RowKit
def rsB (pt qt : ByteArray) (G : List ByteArray × Int) : Bool := !(decide (pt.size = 0) && decide (qt.size = 0)) && (G.2 == 0)
theorem rsB_none {pt qt : ByteArray} {G : List ByteArray × Int} (h1 : pt.size = 0) (h2 : qt.size = 0) : rsB pt qt G = false := by unfold rsB; rw [decide_eq_true h1, decide_eq_true h2]; rfl
theorem rsB_p {pt qt : ByteArray} {G : List ByteArray × Int} (h1 : ¬ pt.size = 0) : rsB pt qt G = (G.2 == 0) := by unfold rsB; rw [decide_eq_false h1]; rfl
theorem rsB_q {pt qt : ByteArray} {G : List ByteArray × Int} (h1 : ¬ qt.size = 0) : rsB pt qt G = (G.2 == 0) := by unfold rsB; rw [decide_eq_false h1, Bool.and_false]; rfl
theorem step_appP {P : Program} {α : Type} (f : α → List Value) (z : Nat) (hf : ∀ a, (f a).length = z) (w : World) {ops : Array Oper} {o : Oper} {a : Act} {K : Act → World → Prop} {Q : Exit → Act → World → Prop} {E : Prop} (hgd : o.guard = none) (s x : Operand) (t : TypeId)
    (ho : o.op = .call { callee := .builtin .append, args := #[s, x], argTypes := #[t, t] })
    (B : Nat) (e : TypeId) (i : TypeInfo) (zv : Value) (bytes : Nat) (ht : P.underlying t = some (.slice e)) (hi : P.info? e = some i) (hz : i.zero = some zv)
    (hsize : i.size = z) (hby : i.bytes = bytes) (hzs : zv.cells.size = z) (hsz : 0 < z)
    (v : Value) (l : List α) (hs : a.eval s = v) (hown : OwnL f z e B w v l)
    (gx c : Nat) (el : α) (hx : a.eval x = .slice (some ⟨gx, 0, none⟩) 1 c) (hnews : ∀ j u, (f el)[j]? = some u → w.cell? ⟨gx, j, none⟩ = some u) (h1 : ∀ u ∈ f el, u.oneCell' = true)
    (hn : l.length + 1 ≤ 16777216) (hbytes : bytes ≤ 4096) (hbase : B ≤ w.heap.size)
    (h : ∀ g cap w', OwnL f z e B w' (.slice (some ⟨g, 0, none⟩) (l.length + 1) cap) (l ++ [el]) → w.grownBy w' v.ownBlock → (v.ownBlock = some g ∨ g = w.heap.size) → K (a.put o.dst (.slice (some ⟨g, 0, none⟩) (l.length + 1) cap)) w') :
    if Region.wanted o (yielded ops a.tmps) = true then Oper.wp P o a w K Q else E := by
  refine step_append_lies w hgd s x t ho B e i zv z bytes ht hi hz hsize hby hzs hsz v l.length (flat f l) hs hown ⟨gx, 0, none⟩ 1 c (f el) hx (by rw [hf]; omega) ?_ h1 (by omega) (by unfold maxLen; omega) ?_ hbase _ rfl ?_
  · intro j u hu
    have e2 : (⟨gx, 0, none⟩ : Addr).add j = ⟨gx, j, none⟩ := by unfold Addr.add; split <;> simp_all
    rw [e2]; exact hnews j u hu
  · have : (l.length + 1) * bytes ≤ 16777216 * 4096 := Nat.mul_le_mul hn hbytes
    omega
  · intro g cap w' h2 h3 h4 _
    refine h g cap w' ?_ h3 h4
    unfold OwnL
    rw [flat_app, List.length_append]
    simpa [flat] using h2
set_option maxRecDepth 20000 in
set_option maxHeartbeats 8000000 in
theorem rest_s (B Bd gb gd : Nat) (e : Evd) (va vb vc vd : Value) (d : Dsc) (x : Value) (L : List Int) (vl : Value) (t P o : Nat) (w : World) (hx : EvBox gb w va vb vc vd) (h : EvOwn B w e va vb vc vd) (hdx : Row w gd (dscL d x)) (hgd : gd < w.heap.size) (hd : SecOwn Bd w x d.secs) (hl : IntsAt w vl L) (hLn : L.length ≤ 1048576)
    (hP : d.per = P) (hP1 : 1 ≤ P) (hPm : P ≤ 1048576) (ho : t * P = o) (ht : o + P ≤ d.secs.length) (hn : d.secs.length ≤ 1048576) (htm : t ≤ 1048576)
    (pt qt : ByteArray) (hpt : e.p[t]? = some pt) (hqt : e.q[t]? = some qt) (hps : pt.size ≤ 1048576) (hqs : qt.size ≤ 1048576) :
    Calls Tryz.prog 119 #[.pointer (some ⟨gb, 0, none⟩), .pointer (some ⟨gd, 0, none⟩), .int .i64 t, vl] w fun r w' => ∃ v', r = .returned (.tuple #[v', .bool (rsB pt qt (r2E (blkF d o P) L pt qt))]) ∧ (rsB pt qt (r2E (blkF d o P) L pt qt) = true → StringL w.heap.size w' v' (r2E (blkF d o P) L pt qt).1) ∧ Below w.heap.size w w' := by
  obtain ⟨s0, si, sz0, sz1, sz2⟩ := info_parts scell_info
  obtain ⟨A, n, B', kk, C, i, D, j, rfl, rfl, rfl, rfl⟩ := h.shape
  obtain ⟨X, c, rfl, hX⟩ := OwnL.shape hd
  obtain ⟨g, rfl, _, hg⟩ := hX.resolve_left (by intro e; rw [e] at ht; simp at ht; omega)
  obtain ⟨Cp, ip, hCp, hCA⟩ := OwnL.shape h.p
  injection hCp with e1 _ e2
  subst e1 e2
  obtain ⟨gp, rfl, _, hgp⟩ := hCA.resolve_left (by intro e; rw [e] at hpt; cases hpt)
  obtain ⟨Dq, jq, hDq, hDA⟩ := OwnL.shape h.q
  injection hDq with e1 _ e2
  subst e1 e2
  obtain ⟨gq, rfl, _, hgq⟩ := hDA.resolve_left (by intro e; rw [e] at hqt; cases hqt)
  have cp := StringL.at_ h.p rfl hpt
  have cq := StringL.at_ h.q rfl hqt
  have htp : t < e.p.length := (List.getElem?_eq_some_iff.1 hpt).1
  have htq : t < e.q.length := (List.getElem?_eq_some_iff.1 hqt).1
  have hgb := World.block_lt_of_cell? w _ hx.c0
  have b2 := hx.c2
  have b3 := hx.c3
  have HB2 := Lib.hid b2
  have HB3 := Lib.hid b3
  have HP := Lib.hid cp
  have HQ := Lib.hid cq
  have h3 : (t : Int) * (P : Int) = (o : Int) := by rw [← ho]; rfl
  have HSC := Lib.hid (fun (k : Nat) (s : Sec) (hk : d.secs[k]? = some s) => OwnL.cell Sec.len hd hk (j := 0) rfl)
  have HD2 : Hid (∀ w', Below w.heap.size w w' → w'.cell? ⟨gd, 2, none⟩ = some (.int .i64 (P : Int))) := Lib.hid fun w' hb => by rw [← hP]; exact (hdx.below hb hgd) 2 _ rfl
  have HD4 : Hid (∀ w', Below w.heap.size w w' → w'.cell? ⟨gd, 4, none⟩ = some (.slice (some ⟨g, 0, none⟩) d.secs.length c)) := Lib.hid fun w' hb => (hdx.below hb hgd) 4 _ rfl
  have HIL := Lib.hid (show ∀ w', Below w.heap.size w w' → IntsAt w' vl L from fun w' hb => by
    obtain ⟨A', c', rfl, hA'⟩ := hl
    refine ⟨_, _, rfl, hA'.imp id ?_⟩
    rintro ⟨g, rfl, hg, hc⟩
    exact ⟨g, rfl, Nat.lt_of_lt_of_le hg hb.size, fun k x hk => (hb.cell (p := ⟨g, k, none⟩) hg).trans (hc k x hk)⟩)
  obtain ⟨Al, cl, rfl, _⟩ := hl
  by_cases hboth : pt.size = 0 ∧ qt.size = 0
  · have HF := Lib.hid (rsB_none (G := r2E (blkF d o P) L pt qt) hboth.1 hboth.2)
    have h1 := emp_nil hboth.1
    have h2 := emp_nil hboth.2
    have h1' : pt.toList.isEmpty = true := by rw [h1]; rfl
    have h2' : qt.toList.isEmpty = true := by rw [h2]; rfl
    clear h hd hX hCA hDA hpt hqt ho hx hdx hboth
    go_enter Tryz.func119, Tryz.ntmps119
    go_wp2_with (fail)
    exact bodyPost_ret (v := .tuple #[.slice none 0 0, .bool false]) (by simp [results, Tryz.results119, go_sem] <;> rfl) rfl ⟨.slice none 0 0, by rw [HF.out], (fun hh => absurd (HF.out.symm.trans hh) (by decide)), Below.refl _ _⟩
  · have HF : Hid (rsB pt qt (r2E (blkF d o P) L pt qt) = ((r2E (blkF d o P) L pt qt).2 == 0)) := Lib.hid (by
      by_cases e : pt.size = 0
      · exact rsB_q (fun e2 => hboth ⟨e, e2⟩)
      · exact rsB_p e)
    have HE : (pt.toList = [] ∧ pt.toList.isEmpty = true ∧ ¬ qt.toList = [] ∧ qt.toList.isEmpty = false) ∨ (¬ pt.toList = [] ∧ pt.toList.isEmpty = false) := by
      by_cases e : pt.size = 0
      · have h1 := emp_nil e
        have h2 := emp_ne (s := qt) (fun e2 => hboth ⟨e, e2⟩)
        exact .inl ⟨h1, by rw [h1]; rfl, h2, by simpa using h2⟩
      · have h1 := emp_ne e
        exact .inr ⟨h1, by simpa using h1⟩
    clear h hd hX hCA hDA hpt hqt ho hx hdx hboth
    go_enter Tryz.func119, Tryz.ntmps119
    rcases HE with ⟨h1, h1', h2, h2'⟩ | ⟨h1, h1'⟩
    all_goals go_wp2_with (fail)
    all_goals clear b2 b3 cp cq
    all_goals
      go_loopw [11, 10] (fun ii out wx => ∃ (q : Nat) (acc : List ByteArray), q ≤ P ∧ ii = .int .i64 q ∧ acc.length = q ∧ Below w.heap.size w wx ∧ StringL w.heap.size wx out acc ∧ Hid (acc = blkF d o q)) (fun ii _ _ => P - (intOf ii).toNat)
      case atStart => exact ⟨0, [], by omega, rfl, rfl, Below.alloc (Below.refl _ _) (Nat.le_refl _) _, OwnL.of_empty w (Nat.le_refl _), Lib.hid (by unfold blkF; simp)⟩
      case round =>
        obtain ⟨q, bl, hq, rfl, hql, hbx, how, HBL⟩ := hrel
        have zx := hbx.size
        have dd2 := HD2.out wr hbx
        have dd4 := HD4.out wr hbx
        by_cases hltq : q < P
        · obtain ⟨s, hs⟩ : ∃ s, d.secs[o + q]? = some s := ⟨d.secs[o + q]'(by omega), List.getElem?_eq_getElem (by omega)⟩
          have f0 := (hbx.cell (p := ⟨g, _, none⟩) hg).trans (HSC.out (o + q) s hs)
          simp only [Nat.add_zero] at f0
          have HN := blk_next hs HBL
          have HO : Hid (StringL w.heap.size wr.drew _ bl) := Lib.hid (OwnL.below how (Below.refl _ _).drew)
          have HBB : Below w.heap.size w wr.drew := hbx.drew
          clear how hs
          obtain ⟨oq, hoq⟩ : ∃ oq, oq = o + q := ⟨_, rfl⟩
          have hcast : ((o : Int) + (q : Int)) = (oq : Int) := by omega
          have hi1 : (oq : Int) < (d.secs.length : Int) := by omega
          have hi2 : oq < d.secs.length := by omega
          have hw1 : IntKind.i64.wrap (o : Int) = (o : Int) := by rw [IntKind.wrap_i64]; omega
          have hw2 : IntKind.i64.wrap (oq : Int) = (oq : Int) := by rw [IntKind.wrap_i64]; omega
          rw [← hoq] at f0
          clear hoq
          go_wp2_with (fail)
          have HOa := Lib.hid (HO.out.alloc (.cells #[.string s.data] 9))
          have HRA := Lib.hid (Row.alloc wr.drew #[.string s.data] 9)
          have hone : ∀ u ∈ scell s.data, u.oneCell' = true := by simp [scell, Value.oneCell']
          have hl1 : bl.length + 1 ≤ 16777216 := by omega
          have hbase : w.heap.size ≤ (wr.drew.alloc (.cells #[.string s.data] 9)).heap.size := by simp; omega
          have HBA : Hid (Below w.heap.size w (wr.drew.alloc (.cells #[.string s.data] 9))) := Lib.hid (HBB.alloc (by show w.heap.size ≤ wr.heap.size; omega) _)
          go_region_law (refine step_appP scell 1 scell_len _ (by rfl) _ _ _ (by rfl) w.heap.size 9 s0 (.string .empty) 16 Tryz.underlying24 si sz0 sz1 sz2 rfl (by decide) u10 bl (by rfl) HOa.out _ 1 s.data (by rfl) HRA.out hone hl1 (by decide) hbase ?_; intro g6 c6 w6 how6 hg6 hat6; have HB6 := Lib.hid (own_grown_below HOa.out HBA.out hg6 (Nat.le_refl _) hbase); have HO6 := Lib.hid how6; clear how6 hg6 hat6)
          all_goals
            go_wp2_with (fail)
            go_roundw
            case rel => exact ⟨q + 1, bl ++ [s.data], by omega, by go_num, by simp; omega, HB6.out, by have h6 := HO6.out; rw [hql] at h6; exact h6, HN⟩
            case measure => simp [intOf]; omega
        · obtain rfl : P = q := by omega
          have HO := Lib.hid how
          have pp2 := (hbx.cell (p := ⟨gb, 2, none⟩) hgb).trans HB2.out
          have pp3 := (hbx.cell (p := ⟨gb, 3, none⟩) hgb).trans HB3.out
          have pp := (hbx.cell (p := ⟨gp, t, none⟩) hgp).trans HP.out
          have qq := (hbx.cell (p := ⟨gq, t, none⟩) hgq).trans HQ.out
          have HBE := Lib.hid HBL.out.symm
          have HK6 : Hid (∀ w', Below wr.drew.heap.size wr.drew w' → w'.cell? ⟨gb, 2, none⟩ = some (.slice (some ⟨gp, 0, none⟩) e.p.length i) ∧ w'.cell? ⟨gb, 3, none⟩ = some (.slice (some ⟨gq, 0, none⟩) e.q.length j) ∧ w'.cell? ⟨gp, t, none⟩ = some (.string pt) ∧ w'.cell? ⟨gq, t, none⟩ = some (.string qt)) := Lib.hid fun w' hb => ⟨(hb.cell (p := ⟨gb, 2, none⟩) (by show gb < wr.heap.size; omega)).trans pp2, (hb.cell (p := ⟨gb, 3, none⟩) (by show gb < wr.heap.size; omega)).trans pp3, (hb.cell (p := ⟨gp, t, none⟩) (by show gp < wr.heap.size; omega)).trans pp, (hb.cell (p := ⟨gq, t, none⟩) (by show gq < wr.heap.size; omega)).trans qq⟩
          have HEQ : r2E (blkF d o P) L pt qt = r2E bl L pt qt := by rw [HBE.out]
          rw [HEQ] at HF
          have HRT := Lib.hid (r2_s _ bl L pt qt _ _ wr.drew (OwnL.below HO.out (Below.refl _ _).drew) (HIL.out wr.drew hbx.drew) (by omega) (by omega) hps hqs)
          have HLN := Lib.hid (fun (hh : (r2E bl L pt qt).2 = 0) => r2_out hh)
          obtain ⟨A8, k8, rfl, hA8⟩ := OwnL.shape how
          rw [hql] at HRT
          generalize r2E bl L pt qt = G at *
          have HEQ := Lib.hid HEQ
          clear how hA8 HBL HBE dd4 HIL
          go_wp2_with (fail)
          go_region_held3 (fun w' => w'.cell? ⟨gb, 2, none⟩ = some (.slice (some ⟨gp, 0, none⟩) e.p.length i) ∧ w'.cell? ⟨gb, 3, none⟩ = some (.slice (some ⟨gq, 0, none⟩) e.q.length j) ∧ w'.cell? ⟨gp, t, none⟩ = some (.string pt) ∧ w'.cell? ⟨gq, t, none⟩ = some (.string qt))
            (first | exact ⟨pp2, pp3, pp, qq⟩ | exact HK6.out _ hb6)
            (first | (go_at_call 142; refine HRT.out.mono ?_; rintro r w6 ⟨v6, rfl, ho6, hb6⟩; have HB6 := Lib.hid ((Below.refl wr.heap.size wr).drew.trans hb6); have HO6 := Lib.hid ho6.1))
          clear ho6 hb6
          clear pp2 pp3 pp qq HRT HK6
          all_goals
            have z6 := HB6.out.size
            have hb7 := hbx.trans (HB6.out.mono zx)
            have dd6 := HD2.out w6 hb7
            cases hcd : (G.2 == 0)
            · obtain ⟨A6, k6, rfl, _⟩ := OwnL.shape HO6.out
              rw [hcd] at HF
              go_wp2_with (fail)
              go_quiet (fail)
              go_wp2_with (fail)
              exact bodyPost_ret (v := .tuple #[.slice A6 G.1.length k6, .bool false]) (by simp [results, Tryz.results119, go_sem] <;> rfl) rfl ⟨.slice A6 G.1.length k6, by rw [HEQ.out, HF.out], (fun hh => by rw [HEQ.out, HF.out] at hh; cases hh), below_drewNQ hb7 _⟩
            · have hg1 : G.1.length = P := (HLN.out (by simpa using hcd)).trans hql
              obtain ⟨A6, k6, rfl, _⟩ := OwnL.shape HO6.out
              rw [hcd] at HF
              rw [hg1]
              go_wp2_with (fail)
              go_quiet (fail)
              go_wp2_with (fail)
              exact bodyPost_ret (v := .tuple #[.slice A6 P k6, .bool true]) (by simp [results, Tryz.results119, go_sem] <;> rfl) rfl ⟨.slice A6 P k6, by rw [HEQ.out, HF.out], (fun _ => by rw [HEQ.out, ← hg1]; exact OwnL.below (OwnL.base HO6.out (by show w.heap.size ≤ wr.heap.size; omega)) (below_drewNQ (Below.refl _ _) _)), below_drewNQ hb7 _⟩
end Go.Proofs.YtfcdienphillnaaGreat
namespace Go.Proofs.YtfcdienphillnaaGreat
set_option linter.unusedVariables false
set_option linter.unusedSimpArgs false
open Go.RowKit Go.Sort
/-- sources whose sectors are small -/
abbrev SrcS := {e : Src // 0 ≤ e.sector ∧ e.sector ≤ 1048576}
instance : Inhabited SrcS := ⟨⟨⟨0, 0, 0⟩, by decide, by decide⟩⟩
def encS (x : SrcS) : List Value := x.1.cells
def cmpS (x y : SrcS) : Int := x.1.sector - y.1.sector
theorem ltS (x y : SrcS) : Go.Proofs.ltOf cmpS x y = decide (x.1.sector < y.1.sector) := by
  unfold Go.Proofs.ltOf cmpS
  rw [decide_eq_decide]; omega
theorem swoS : SWO (Go.Proofs.ltOf cmpS) where
  irrefl x := by rw [ltS]; simp
  trans x y z h1 h2 := by rw [ltS] at *; simp at *; omega
  ntrans x y z h1 h2 := by rw [ltS] at *; simp at *; omega
def srL (d : Array SrcS) : List Src := d.toList.map (·.1)
theorem srL_len (d : Array SrcS) : (srL d).length = d.size := by simp [srL]
theorem srL_at {d : Array SrcS} {k : Nat} (h : k < d.size) : (srL d)[k]? = some (d[k]!).1 := by
  unfold srL
  rw [List.getElem?_map, Array.getElem?_toList, Array.getElem?_eq_getElem h, getElem!_pos d k h]; rfl
theorem encS_at {d : Array SrcS} {j : Nat} : ((d[j / 3]!).1.cells)[j % 3]? = some ((encS d[j / 3]!)[j % 3]!) := by
  unfold encS
  have : j % 3 = 0 ∨ j % 3 = 1 ∨ j % 3 = 2 := by omega
  rcases this with h | h | h <;> rw [h] <;> rfl
theorem holds_srcs {T : TypeId} {B g n c : Nat} {w : World} {d : Array SrcS} (h : OwnL Src.cells 3 T B w (.slice (some ⟨g, 0, none⟩) n c) (srL d)) : HoldsK encS 3 w g 0 d := by
  intro j hj
  have hj' : j < d.size * 3 := by simpa using hj
  have hd : j / 3 < d.size := by omega
  refine ⟨?_, by simpa using OwnL.frozen h⟩
  rw [get_flatK _ _ _ _ hj', Nat.zero_add]
  have := OwnL.at1 Src.len h (srL_at hd) encS_at
  rw [show j / 3 * 3 + j % 3 = j by omega] at this; exact this
theorem putCells_getS {F c : Array Value} {j : Nat} (hj : j < F.size) (hc : j < c.size) : (putCells id 0 F c)[j]? = some F[j]! := by
  unfold putCells
  rw [Array.getElem?_mapIdx, Array.getElem?_eq_getElem hc]
  simp [hj]
theorem own_sortedS {T : TypeId} {B g n c m : Nat} {w : World} {d d' : Array SrcS} {os : Array Obj} (h : OwnL Src.cells 3 T B w (.slice (some ⟨g, 0, none⟩) n c) (srL d)) (hs : d'.size = d.size) : OwnL Src.cells 3 T B (sortWorldK encS 3 w g 0 m d' os) (.slice (some ⟨g, 0, none⟩) n c) (srL d') := by
  obtain ⟨A, c', e1, _⟩ := h.shape
  injection e1 with e2 e3 e4
  obtain ⟨h1, h2⟩ := h
  rcases h2 with ⟨hn, _⟩ | ⟨g', cap, cur, he, hB, hh, hnc, hm, hcs, htk⟩
  · cases hn
  injection he with e5 e6 e7
  injection e5 with e5
  injection e5 with e5 _ _
  subst e5 e7
  rw [srL_len] at e6 hnc htk
  have hg : g < w.heap.size := (Array.getElem?_eq_some_iff.1 hh).1
  have hsz : (srL d').length = d.size := by rw [srL_len, hs]
  have hcur : (srL d').length * 3 ≤ cur.size := by rw [hsz, hcs]; omega
  refine ⟨by rw [flat_len Src.len], .inr ⟨g, c, putCells id 0 (flatK encS 3 d') cur, by rw [hsz, e6], hB, ?_, by rw [hsz]; exact hnc, hm, by simp [putCells, hcs], ?_⟩⟩
  · show (grow (putRow id (Go.Sort.ahead w m) g 0 (flatK encS 3 d')) os).heap[g]? = _
    rw [heap_grow_old _ _ (by simp; exact hg)]
    show ((Go.Sort.ahead w m).heap.modify g (onCells (putCells id 0 (flatK encS 3 d'))))[g]? = _
    rw [Array.getElem?_modify, if_pos rfl]
    show (w.heap[g]?).map _ = _
    rw [hh]; rfl
  · apply List.ext_getElem?
    intro j
    rw [List.getElem?_take]
    by_cases hj : j < (srL d').length * 3
    · rw [if_pos hj, Array.getElem?_toList]
      have hj2 : j < d'.size * 3 := by rw [srL_len] at hj; exact hj
      have hd : j / 3 < d'.size := by omega
      rw [putCells_getS (by simpa using hj2) (by omega), get_flatK _ _ _ _ hj2]
      have := flat_get Src.len (srL_at hd) (j := j % 3) (by omega)
      rw [show j / 3 * 3 + j % 3 = j by omega] at this
      rw [this, encS_at]
    · rw [if_neg hj, List.getElem?_eq_none (by rw [flat_len Src.len]; omega)]
theorem below_sortedS {g m : Nat} {w : World} {d' : Array SrcS} {os : Array Obj} (hg : g < w.heap.size) : Below g w (sortWorldK encS 3 w g 0 m d' os) := by
  refine ⟨rfl, rfl, rfl, ?_, fun k hk => ?_⟩
  · show _ ≤ (grow (putRow id (Go.Sort.ahead w m) g 0 (flatK encS 3 d')) os).heap.size
    simp
  · show (grow (putRow id (Go.Sort.ahead w m) g 0 (flatK encS 3 d')) os).heap[k]? = _
    rw [heap_grow_old _ _ (by simp; omega)]
    show ((Go.Sort.ahead w m).heap.modify g (onCells (putCells id 0 (flatK encS 3 d'))))[k]? = _
    rw [Array.getElem?_modify, if_neg (by omega)]; rfl
theorem ext_allS (d : Array SrcS) {n : Nat} (h : d.size = n) : d.extract 0 n = d := by subst h; simp
/-- sources in rising order of sectors -/
def SrtL (l : List Src) : Prop := l.Pairwise fun a b => a.sector < b.sector
theorem sorted_srcs {d d' : Array SrcS} (hp : PermIn 0 d.size d d') (hs : SortedIn (Go.Proofs.ltOf cmpS) 0 d.size d') (hd : (srL d).Pairwise fun a b => a.sector ≠ b.sector) : (srL d').Perm (srL d) ∧ SrtL (srL d') := by
  obtain ⟨h1, _, h2⟩ := hp
  rw [ext_allS d' h1, ext_allS d rfl] at h2
  have hP : (srL d').Perm (srL d) := h2.map _
  refine ⟨hP, ?_⟩
  have hsep' : (srL d').Pairwise fun a b => a.sector ≠ b.sector := (hP.pairwise_iff (fun h => fun e => h e.symm)).2 hd
  have hsep := List.pairwise_iff_getElem.1 hsep'
  refine List.pairwise_iff_getElem.2 fun i j hi hj hij => ?_
  have h3 := hsep i j hi hj hij
  have hi' : i < d'.size := by rw [srL_len] at hi; exact hi
  have hj' : j < d'.size := by rw [srL_len] at hj; exact hj
  have ei : (srL d')[i] = (d'[i]!).1 := Option.some.inj ((List.getElem?_eq_getElem hi).symm.trans (srL_at hi'))
  have ej : (srL d')[j] = (d'[j]!).1 := Option.some.inj ((List.getElem?_eq_getElem hj).symm.trans (srL_at hj'))
  have h4 := hs i j (Nat.zero_le _) hij (by omega)
  rw [ltS] at h4
  have h5 := of_decide_eq_false h4
  rw [ei, ej] at h3 ⊢
  omega
/-- two rising lists with the same sources are one -/
theorem srt_eq {a b : List Src} (ha : SrtL a) (hb : SrtL b) (hp : a.Perm b) : a = b :=
  hp.eq_of_pairwise (fun x y _ _ h1 h2 => by omega) ha hb
theorem as_srcs {a : List Src} (h : ∀ s ∈ a, 0 ≤ s.sector ∧ s.sector ≤ 1048576) : ∃ d : Array SrcS, srL d = a := by
  induction a with
  | nil => exact ⟨#[], rfl⟩
  | cons e a ih =>
    obtain ⟨d, hd⟩ := ih fun s hs => h s (List.mem_cons_of_mem _ hs)
    refine ⟨((⟨e, h e List.mem_cons_self⟩ : SrcS) :: d.toList).toArray, ?_⟩
    unfold srL at hd ⊢
    simp [hd]
end Go.Proofs.YtfcdienphillnaaGreat
