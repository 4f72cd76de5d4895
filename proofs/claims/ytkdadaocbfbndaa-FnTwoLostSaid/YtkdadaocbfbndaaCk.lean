/- CheckParity, impl and spec: the walks. -/
import Derived.Test.YtkdadaocbfbndaaParS
namespace Go.Proofs.Ytkdadaocbfbndaa
set_option linter.unusedVariables false
open Go.RowKit

def ckOk (l : List ByteArray) (p q : ByteArray) : Bool := groupB l && (decide (p.size = (l.headD .empty).size) && decide (q.size = (l.headD .empty).size))
def ckR (l : List ByteArray) (p q : ByteArray) : Bool × Int := if ckOk l p q then (((mkR l).1.toList == p.toList) && ((mkR l).2.1.toList == q.toList), 0) else (false, 1)
def ckV (l : List ByteArray) (p q : ByteArray) : Value := .tuple #[.bool (ckR l p q).1, .int .i64 (ckR l p q).2]
theorem ckV_no {l : List ByteArray} {p q : ByteArray} (h : ckOk l p q = false) : ckV l p q = .tuple #[.bool false, .int .i64 1] := by unfold ckV ckR; rw [h]; rfl
theorem ckV_yes {l : List ByteArray} {p q a b : ByteArray} {x y : Bool} (h : ckOk l p q = true) (ha : (mkR l).1 = a) (hb : (mkR l).2.1 = b) (hx : (a.toList == p.toList) = x) (hy : (b.toList == q.toList) = y) : ckV l p q = .tuple #[.bool (x && y), .int .i64 0] := by
  unfold ckV ckR; rw [h, ha, hb]; simp only [hx, hy]; rfl
theorem ckOk_head {l : List ByteArray} {s p q : ByteArray} (hg : groupB l = true) (hs : l[0]? = some s) : ckOk l p q = (decide (p.size = s.size) && decide (q.size = s.size)) := by
  cases l with
  | nil => cases hs
  | cons a r =>
    obtain rfl : a = s := by simpa using hs
    unfold ckOk; rw [hg]; rfl
set_option maxHeartbeats 2000000 in
theorem ck_i (l : List ByteArray) (p q : ByteArray) (v : Value) (w : World) (h : StrL w v l) (hm : l.length ≤ 1048576) (hp : p.size ≤ 1048576) (hq : q.size ≤ 1048576) :
    Calls Try.prog 20 #[v, .string p, .string q] w fun e w' => e = .returned (ckV l p q) ∧ Below w.heap.size w w' := by
  have hmm : l.length ≤ maxLen := by unfold maxLen; omega
  cases hg : groupB l
  · have HF : Hid (ckV l p q = .tuple #[.bool false, .int .i64 1]) := Lib.hid (ckV_no (by unfold ckOk; rw [hg]; rfl))
    go_enter Try.func20, Try.ntmps20
    go_wp2_with (go_at_call 39; refine (group_i l _ _ h hmm).mono ?_; rintro e w1 ⟨rfl, hb1⟩)
    rw [HF.out]; exact bodyPost_ret (by simp [results, Try.results20, go_sem]; try rfl) rfl ⟨rfl, (by repeat (first | exact Below.refl _ _ | refine Below.alloc ?_ (by first | omega | (simp; done) | (simp; omega)) _ | apply Below.drew | apply below_drewN | refine Below.setCell ?_ (by first | omega | (simp; done) | (simp; omega)) _ | refine Below.trans ?_ (Below.mono (by assumption) (by first | omega | (simp; done) | (simp; omega)))))⟩
  · obtain ⟨s, hs, h1, h2, h3, h4, h5⟩ := groupB_size hg
    have HO := ckOk_head (p := p) (q := q) hg hs
    have HM := mkR_yes hg hs
    have H := h
    obtain ⟨A, c, rfl, hA⟩ := h
    obtain ⟨g, rfl, hgl, hc⟩ := hA.resolve_left (by rintro rfl; simp at hs)
    have p0 := hc 0 s hs
    have HH := Lib.hid H
    have H5 := Lib.hid h5
    clear hs hc H h5 hA
    by_cases hps : p.size = s.size
    · by_cases hqs : q.size = s.size
      · have hok : ckOk l p q = true := by rw [HO, decide_eq_true hps, decide_eq_true hqs]; rfl
        have e1 : (mkR l).1 = strN (parF (List.replicate p.size 0) (List.replicate p.size 0) 0 l).1 := by rw [HM, hps]
        have e2 : (mkR l).2.1 = strN (parF (List.replicate p.size 0) (List.replicate p.size 0) 0 l).2 := by rw [HM, hps]
        have d1 : ((p.size : Int) != (s.size : Int)) = false := by simp [hps]
        have d2 : ((q.size : Int) != (s.size : Int)) = false := by simp [hqs]
        have HP := fun w h => parity_i l p.size (.slice (some ⟨g, 0, none⟩) l.length c) w h hm (fun t ht => .inr ((H5.out t ht).trans hps.symm)) hp
        generalize strN (parF (List.replicate p.size 0) (List.replicate p.size 0) 0 l).1 = a at *
        generalize strN (parF (List.replicate p.size 0) (List.replicate p.size 0) 0 l).2 = b at *
        have HQ := Lib.hid HP
        clear HP HM HO
        cases hx : (a.toList == p.toList)
        · have HF := Lib.hid (ckV_yes hok e1 e2 hx rfl)
          clear e1 e2 hok hps hqs
          go_enter Try.func20, Try.ntmps20
          go_wp2_with (first | (go_at_call 39; refine (group_i l _ _ HH.out hmm).mono ?_; rintro e w1 ⟨rfl, hb1⟩; have p1 := (hb1.cell (p := ⟨g, 0, none⟩) hgl).trans p0; have z1 := hb1.size) | (go_at_call 45; refine (HQ.out _ (HH.out.below hb1 (Nat.le_refl _))).mono ?_; rintro e w2 ⟨rfl, hb2⟩))
          rw [HF.out]; exact bodyPost_ret (by simp [results, Try.results20, go_sem]; try rfl) rfl ⟨rfl, (by repeat (first | exact Below.refl _ _ | refine Below.alloc ?_ (by first | omega | (simp; done) | (simp; omega)) _ | apply Below.drew | apply below_drewN | refine Below.setCell ?_ (by first | omega | (simp; done) | (simp; omega)) _ | refine Below.trans ?_ (Below.mono (by assumption) (by first | omega | (simp; done) | (simp; omega)))))⟩
        · cases hy : (b.toList == q.toList)
          · have HF := Lib.hid (ckV_yes hok e1 e2 hx hy)
            clear e1 e2 hok hps hqs
            go_enter Try.func20, Try.ntmps20
            go_wp2_with (first | (go_at_call 39; refine (group_i l _ _ HH.out hmm).mono ?_; rintro e w1 ⟨rfl, hb1⟩; have p1 := (hb1.cell (p := ⟨g, 0, none⟩) hgl).trans p0; have z1 := hb1.size) | (go_at_call 45; refine (HQ.out _ (HH.out.below hb1 (Nat.le_refl _))).mono ?_; rintro e w2 ⟨rfl, hb2⟩))
            rw [HF.out]; exact bodyPost_ret (by simp [results, Try.results20, go_sem]; try rfl) rfl ⟨rfl, (by repeat (first | exact Below.refl _ _ | refine Below.alloc ?_ (by first | omega | (simp; done) | (simp; omega)) _ | apply Below.drew | apply below_drewN | refine Below.setCell ?_ (by first | omega | (simp; done) | (simp; omega)) _ | refine Below.trans ?_ (Below.mono (by assumption) (by first | omega | (simp; done) | (simp; omega)))))⟩
          · have HF := Lib.hid (ckV_yes hok e1 e2 hx hy)
            clear e1 e2 hok hps hqs
            go_enter Try.func20, Try.ntmps20
            go_wp2_with (first | (go_at_call 39; refine (group_i l _ _ HH.out hmm).mono ?_; rintro e w1 ⟨rfl, hb1⟩; have p1 := (hb1.cell (p := ⟨g, 0, none⟩) hgl).trans p0; have z1 := hb1.size) | (go_at_call 45; refine (HQ.out _ (HH.out.below hb1 (Nat.le_refl _))).mono ?_; rintro e w2 ⟨rfl, hb2⟩))
            rw [HF.out]; exact bodyPost_ret (by simp [results, Try.results20, go_sem]; try rfl) rfl ⟨rfl, (by repeat (first | exact Below.refl _ _ | refine Below.alloc ?_ (by first | omega | (simp; done) | (simp; omega)) _ | apply Below.drew | apply below_drewN | refine Below.setCell ?_ (by first | omega | (simp; done) | (simp; omega)) _ | refine Below.trans ?_ (Below.mono (by assumption) (by first | omega | (simp; done) | (simp; omega)))))⟩
      · have HF := Lib.hid (ckV_no (l := l) (p := p) (q := q) (by rw [HO, decide_eq_false hqs, Bool.and_false]))
        have d1 : ((p.size : Int) != (s.size : Int)) = false := by simp [hps]
        have d2 : ((q.size : Int) != (s.size : Int)) = true := by simp; omega
        clear HM HO hps hqs
        go_enter Try.func20, Try.ntmps20
        go_wp2_with (first | (go_at_call 39; refine (group_i l _ _ HH.out hmm).mono ?_; rintro e w1 ⟨rfl, hb1⟩; have p1 := (hb1.cell (p := ⟨g, 0, none⟩) hgl).trans p0; have z1 := hb1.size))
        rw [HF.out]; exact bodyPost_ret (by simp [results, Try.results20, go_sem]; try rfl) rfl ⟨rfl, (by repeat (first | exact Below.refl _ _ | refine Below.alloc ?_ (by first | omega | (simp; done) | (simp; omega)) _ | apply Below.drew | apply below_drewN | refine Below.setCell ?_ (by first | omega | (simp; done) | (simp; omega)) _ | refine Below.trans ?_ (Below.mono (by assumption) (by first | omega | (simp; done) | (simp; omega)))))⟩
    · have HF := Lib.hid (ckV_no (l := l) (p := p) (q := q) (by rw [HO, decide_eq_false hps, Bool.false_and]))
      have d1 : ((p.size : Int) != (s.size : Int)) = true := by simp; omega
      clear HM HO hps
      go_enter Try.func20, Try.ntmps20
      go_wp2_with (first | (go_at_call 39; refine (group_i l _ _ HH.out hmm).mono ?_; rintro e w1 ⟨rfl, hb1⟩; have p1 := (hb1.cell (p := ⟨g, 0, none⟩) hgl).trans p0; have z1 := hb1.size))
      rw [HF.out]; exact bodyPost_ret (by simp [results, Try.results20, go_sem]; try rfl) rfl ⟨rfl, (by repeat (first | exact Below.refl _ _ | refine Below.alloc ?_ (by first | omega | (simp; done) | (simp; omega)) _ | apply Below.drew | apply below_drewN | refine Below.setCell ?_ (by first | omega | (simp; done) | (simp; omega)) _ | refine Below.trans ?_ (Below.mono (by assumption) (by first | omega | (simp; done) | (simp; omega)))))⟩
set_option maxHeartbeats 2000000 in
theorem ck_s (l : List ByteArray) (p q : ByteArray) (v : Value) (w : World) (h : StrL w v l) (hm : l.length ≤ 1048576) (hp : p.size ≤ 1048576) (hq : q.size ≤ 1048576) :
    Calls Try.prog 19 #[v, .string p, .string q] w fun e w' => e = .returned (ckV l p q) ∧ Below w.heap.size w w' := by
  have HK := mk_s l v w h hm
  unfold mkV at HK
  cases hg : groupB l
  · have HF : Hid (ckV l p q = .tuple #[.bool false, .int .i64 1]) := Lib.hid (ckV_no (by unfold ckOk; rw [hg]; rfl))
    rw [mkR_no hg] at HK
    go_enter Try.func19, Try.ntmps19
    go_wp2_with (go_at_call 15; refine HK.mono ?_; rintro e w1 ⟨rfl, hb1⟩)
    rw [HF.out]; exact bodyPost_ret (by simp [results, Try.results19, go_sem]; try rfl) rfl ⟨rfl, (by repeat (first | exact Below.refl _ _ | refine Below.alloc ?_ (by first | omega | (simp; done) | (simp; omega)) _ | apply Below.drew | apply below_drewN | refine Below.setCell ?_ (by first | omega | (simp; done) | (simp; omega)) _ | refine Below.trans ?_ (Below.mono (by assumption) (by first | omega | (simp; done) | (simp; omega)))))⟩
  · obtain ⟨s, hs, h1, h2, h3, h4, h5⟩ := groupB_size hg
    have HO := ckOk_head (p := p) (q := q) hg hs
    have HM := mkR_yes hg hs
    have hpl := (parF_len (n := s.size) (k := 0) (l := l) (p := List.replicate s.size 0) (q := List.replicate s.size 0) (by simp) (by simp) (fun t ht => .inr (h5 t ht)))
    have za : (mkR l).1.size = s.size := by rw [HM, strN_size]; exact hpl.1
    have zb : (mkR l).2.1.size = s.size := by rw [HM, strN_size]; exact hpl.2
    have hcd : (mkR l).2.2 = 0 := by rw [HM]
    rw [hcd] at HK
    have e1 : (mkR l).1 = (mkR l).1 := rfl
    have e2 : (mkR l).2.1 = (mkR l).2.1 := rfl
    have HV := fun x y (h1 : ckOk l p q = true) (hx : ((mkR l).1.toList == p.toList) = x) (hy : ((mkR l).2.1.toList == q.toList) = y) => ckV_yes h1 rfl rfl hx hy
    clear HM e1 e2 hcd hpl
    generalize (mkR l).1 = a at *
    generalize (mkR l).2.1 = b at *
    by_cases hps : p.size = s.size
    · by_cases hqs : q.size = s.size
      · have hok : ckOk l p q = true := by rw [HO, decide_eq_true hps, decide_eq_true hqs]; rfl
        have d1 : ((p.size : Int) != (a.size : Int)) = false := by simp [hps, za]
        have d2 : ((q.size : Int) != (b.size : Int)) = false := by simp [hqs, zb]
        cases hx : (a.toList == p.toList)
        · have HF := Lib.hid (HV _ _ hok hx rfl)
          clear hps hqs za zb
          go_enter Try.func19, Try.ntmps19
          go_wp2_with (go_at_call 15; refine HK.mono ?_; rintro e w1 ⟨rfl, hb1⟩)
          rw [HF.out]; exact bodyPost_ret (by simp [results, Try.results19, go_sem]; try rfl) rfl ⟨rfl, (by repeat (first | exact Below.refl _ _ | refine Below.alloc ?_ (by first | omega | (simp; done) | (simp; omega)) _ | apply Below.drew | apply below_drewN | refine Below.setCell ?_ (by first | omega | (simp; done) | (simp; omega)) _ | refine Below.trans ?_ (Below.mono (by assumption) (by first | omega | (simp; done) | (simp; omega)))))⟩
        · cases hy : (b.toList == q.toList)
          · have HF := Lib.hid (HV _ _ hok hx hy)
            clear hps hqs za zb
            go_enter Try.func19, Try.ntmps19
            go_wp2_with (go_at_call 15; refine HK.mono ?_; rintro e w1 ⟨rfl, hb1⟩)
            rw [HF.out]; exact bodyPost_ret (by simp [results, Try.results19, go_sem]; try rfl) rfl ⟨rfl, (by repeat (first | exact Below.refl _ _ | refine Below.alloc ?_ (by first | omega | (simp; done) | (simp; omega)) _ | apply Below.drew | apply below_drewN | refine Below.setCell ?_ (by first | omega | (simp; done) | (simp; omega)) _ | refine Below.trans ?_ (Below.mono (by assumption) (by first | omega | (simp; done) | (simp; omega)))))⟩
          · have HF := Lib.hid (HV _ _ hok hx hy)
            clear hps hqs za zb
            go_enter Try.func19, Try.ntmps19
            go_wp2_with (go_at_call 15; refine HK.mono ?_; rintro e w1 ⟨rfl, hb1⟩)
            rw [HF.out]; exact bodyPost_ret (by simp [results, Try.results19, go_sem]; try rfl) rfl ⟨rfl, (by repeat (first | exact Below.refl _ _ | refine Below.alloc ?_ (by first | omega | (simp; done) | (simp; omega)) _ | apply Below.drew | apply below_drewN | refine Below.setCell ?_ (by first | omega | (simp; done) | (simp; omega)) _ | refine Below.trans ?_ (Below.mono (by assumption) (by first | omega | (simp; done) | (simp; omega)))))⟩
      · have HF := Lib.hid (ckV_no (l := l) (p := p) (q := q) (by rw [HO, decide_eq_false hqs, Bool.and_false]))
        have d1 : ((p.size : Int) != (a.size : Int)) = false := by simp [hps, za]
        have d2 : ((q.size : Int) != (b.size : Int)) = true := by simp; omega
        clear hps hqs za zb
        go_enter Try.func19, Try.ntmps19
        go_wp2_with (go_at_call 15; refine HK.mono ?_; rintro e w1 ⟨rfl, hb1⟩)
        rw [HF.out]; exact bodyPost_ret (by simp [results, Try.results19, go_sem]; try rfl) rfl ⟨rfl, (by repeat (first | exact Below.refl _ _ | refine Below.alloc ?_ (by first | omega | (simp; done) | (simp; omega)) _ | apply Below.drew | apply below_drewN | refine Below.setCell ?_ (by first | omega | (simp; done) | (simp; omega)) _ | refine Below.trans ?_ (Below.mono (by assumption) (by first | omega | (simp; done) | (simp; omega)))))⟩
    · have HF := Lib.hid (ckV_no (l := l) (p := p) (q := q) (by rw [HO, decide_eq_false hps, Bool.false_and]))
      have d1 : ((p.size : Int) != (a.size : Int)) = true := by simp; omega
      clear hps za zb
      go_enter Try.func19, Try.ntmps19
      go_wp2_with (go_at_call 15; refine HK.mono ?_; rintro e w1 ⟨rfl, hb1⟩)
      rw [HF.out]; exact bodyPost_ret (by simp [results, Try.results19, go_sem]; try rfl) rfl ⟨rfl, (by repeat (first | exact Below.refl _ _ | refine Below.alloc ?_ (by first | omega | (simp; done) | (simp; omega)) _ | apply Below.drew | apply below_drewN | refine Below.setCell ?_ (by first | omega | (simp; done) | (simp; omega)) _ | refine Below.trans ?_ (Below.mono (by assumption) (by first | omega | (simp; done) | (simp; omega)))))⟩
end Go.Proofs.Ytkdadaocbfbndaa
