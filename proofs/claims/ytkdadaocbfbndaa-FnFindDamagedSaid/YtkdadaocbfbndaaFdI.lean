/- FindDamaged of the program: the walk. -/
import Derived.Test.YtkdadaocbfbndaaCk
namespace Go.Proofs.Ytkdadaocbfbndaa
set_option linter.unusedVariables false
open Go.RowKit

def fdL (ch : List Nat) (ot : ByteArray) : Nat → Nat → Int × Int
  | _, 0 => (0, 10)
  | k, m + 1 => if (strN (scN (gpow (m255 k)) ch)).toList == ot.toList then ((k : Int), 0) else fdL ch ot (k + 1) m
def fdR (l : List ByteArray) (p q : ByteArray) : Int × Int :=
  if ckOk l p q then
    if ((mkR l).1.toList == p.toList) then (if ((mkR l).2.1.toList == q.toList) then (-1, 0) else (0, 6))
    else if ((mkR l).2.1.toList == q.toList) then (0, 6)
    else fdL (xorN (bts (mkR l).1) (bts p)) (strN (xorN (bts (mkR l).2.1) (bts q))) 0 l.length
  else (0, 1)
def fdV (l : List ByteArray) (p q : ByteArray) : Value := .tuple #[.int .i64 (fdR l p q).1, .int .i64 (fdR l p q).2]
theorem fd_yes {ch : List Nat} {ot : ByteArray} {k n : Nat} (hk : k < n) (H : Hid (fdL ch ot 0 n = fdL ch ot k (n - k))) (h : ((strN (scN (gpow (m255 k)) ch)).toList == ot.toList) = true) : fdL ch ot 0 n = ((k : Int), 0) := by
  rw [H.out, show n - k = (n - (k + 1)) + 1 by omega, fdL, if_pos h]
theorem fd_no {ch : List Nat} {ot : ByteArray} {k n : Nat} (hk : k < n) (H : Hid (fdL ch ot 0 n = fdL ch ot k (n - k))) (h : ((strN (scN (gpow (m255 k)) ch)).toList == ot.toList) = false) : Hid (fdL ch ot 0 n = fdL ch ot (k + 1) (n - (k + 1))) :=
  Lib.hid (by rw [H.out, show n - k = (n - (k + 1)) + 1 by omega, fdL, if_neg (by rw [h]; decide)])
theorem fd_end {ch : List Nat} {ot : ByteArray} {k n : Nat} (hk : n ≤ k) (H : Hid (fdL ch ot 0 n = fdL ch ot k (n - k))) : fdL ch ot 0 n = (0, 10) := by
  rw [H.out, show n - k = 0 by omega, fdL]
set_option maxHeartbeats 2000000 in
theorem fd_i (l : List ByteArray) (p q : ByteArray) (v : Value) (w : World) (h : StrL w v l) (hm : l.length ≤ 1048576) (hp : p.size ≤ 1048576) (hq : q.size ≤ 1048576) :
    Calls Try.prog 22 #[v, .string p, .string q] w fun e w' => e = .returned (fdV l p q) ∧ Below w.heap.size w w' := by
  have HK := ck_i l p q v w h hm hp hq
  cases hok : ckOk l p q
  · have HF : Hid (fdV l p q = .tuple #[.int .i64 0, .int .i64 1]) := Lib.hid (by unfold fdV fdR; rw [hok]; rfl)
    rw [ckV_no hok] at HK
    go_enter Try.func22, Try.ntmps22
    go_wp2_with (go_at_call 20; refine HK.mono ?_; rintro e w1 ⟨rfl, hb1⟩)
    rw [HF.out]; exact bodyPost_ret (by simp [results, Try.results22, go_sem]; try rfl) rfl ⟨rfl, (by repeat (first | exact Below.refl _ _ | refine Below.alloc ?_ (by first | omega | (simp; done) | (simp; omega)) _ | apply Below.drew | apply below_drewN | refine Below.setCell ?_ (by first | omega | (simp; done) | (simp; omega)) _ | refine Below.trans ?_ (Below.mono (by assumption) (by first | omega | (simp; done) | (simp; omega)))))⟩
  · have hg : groupB l = true := by unfold ckOk at hok; simp only [Bool.and_eq_true] at hok; exact hok.1
    obtain ⟨s, hs, h1, h2, h3, h4, h5⟩ := groupB_size hg
    have hso := hok
    rw [ckOk_head hg hs] at hso
    simp only [Bool.and_eq_true, decide_eq_true_eq] at hso
    have HM := mkR_yes hg hs
    have hpl := (parF_len (n := s.size) (k := 0) (l := l) (p := List.replicate s.size 0) (q := List.replicate s.size 0) (by simp) (by simp) (fun t ht => .inr (h5 t ht)))
    have e1 : (mkR l).1 = strN (parF (List.replicate p.size 0) (List.replicate p.size 0) 0 l).1 := by rw [HM, hso.1]
    have e2 : (mkR l).2.1 = strN (parF (List.replicate p.size 0) (List.replicate p.size 0) 0 l).2 := by rw [HM, hso.1]
    have za : (mkR l).1.size = p.size := by rw [HM, strN_size]; omega
    have zb : (mkR l).2.1.size = q.size := by rw [HM, strN_size]; omega
    have HP := fun w h => parity_i l p.size v w h hm (fun t ht => .inr ((h5 t ht).trans hso.1.symm)) hp
    rw [← e1, ← e2] at HP
    have HFF : fdR l p q = if ((mkR l).1.toList == p.toList) then (if ((mkR l).2.1.toList == q.toList) then (-1, 0) else (0, 6)) else if ((mkR l).2.1.toList == q.toList) then (0, 6) else fdL (xorN (bts (mkR l).1) (bts p)) (strN (xorN (bts (mkR l).2.1) (bts q))) 0 l.length := by unfold fdR; rw [hok]; rfl
    have HCK := fun x y (hx : ((mkR l).1.toList == p.toList) = x) (hy : ((mkR l).2.1.toList == q.toList) = y) => ckV_yes hok rfl rfl hx hy
    have X1 := fun w => xor_i (mkR l).1 p w (by omega) (by omega)
    have X2 := fun w => xor_i (mkR l).2.1 q w (by omega) (by omega)
    clear HM hpl e1 e2
    generalize (mkR l).1 = a at *
    generalize (mkR l).2.1 = b at *
    have HH := Lib.hid h
    have HQ := Lib.hid HP
    have HX1 := Lib.hid X1
    have HX2 := Lib.hid X2
    clear h HP X1 X2 hs h5
    cases hx : (a.toList == p.toList)
    · cases hy : (b.toList == q.toList)
      · rw [HCK _ _ hx hy] at HK
        have HF : Hid (fdR l p q = fdL (xorN (bts a) (bts p)) (strN (xorN (bts b) (bts q))) 0 l.length) := Lib.hid (by rw [HFF, hx, hy]; rfl)
        have hcl : (xorN (bts a) (bts p)).length = p.size := by rw [xorN_len (by rw [bts_len, bts_len]; omega), bts_len]; omega
        have hcb : ∀ x ∈ xorN (bts a) (bts p), x < 256 := xorN_lt bts_lt bts_lt
        have X3 := fun (k : Nat) w (hk : k < 1048576) => scaled_i (strN (xorN (bts a) (bts p))) k w (by rw [strN_size]; omega) (by omega)
        rw [bts_strN hcb] at X3
        have HX3 := Lib.hid X3
        clear X3 HFF HCK hok hso hg za zb
        generalize xorN (bts a) (bts p) = ch at *
        generalize strN (xorN (bts b) (bts q)) = ot at *
        obtain ⟨A, c, rfl, hA⟩ := HH.out
        clear hA
        go_enter Try.func22, Try.ntmps22
        go_wp2_with (first | (go_at_call 20; refine HK.mono ?_; rintro e w1 ⟨rfl, hb1⟩; have z1 := hb1.size) | (go_at_call 45; refine (HQ.out _ (HH.out.below hb1 (Nat.le_refl _))).mono ?_; rintro e w2 ⟨rfl, hb2⟩; have z2 := hb2.size))
        refine (HX1.out _).mono ?_; rintro e w3 ⟨rfl, hb3⟩
        go_wp2_with (fail)
        refine (HX2.out _).mono ?_; rintro e w4 ⟨rfl, hb4⟩
        have z3 := hb3.size
        have z4 := hb4.size
        go_wp2
        go_loopw [49] (fun i wr => ∃ k : Nat, k ≤ l.length ∧ i = .int .i64 k ∧ Below w.heap.size w wr ∧ Hid (fdL ch ot 0 l.length = fdL ch ot k (l.length - k))) (fun i _ => l.length - (intOf i).toNat)
        case atStart => exact ⟨0, by omega, rfl, (by repeat (first | exact Below.refl _ _ | refine Below.alloc ?_ (by first | omega | (simp; done) | (simp; omega)) _ | apply Below.drew | apply below_drewN | refine Below.setCell ?_ (by first | omega | (simp; done) | (simp; omega)) _ | refine Below.trans ?_ (Below.mono (by assumption) (by first | omega | (simp; done) | (simp; omega))))), Lib.hid rfl⟩
        case round =>
          obtain ⟨k, hk, rfl, hb, HL⟩ := hrel
          have zr := hb.size
          by_cases hlt : k < l.length
          · have HX4 := Lib.hid (HX3.out k)
            cases he : ((strN (scN (gpow (m255 k)) ch)).toList == ot.toList)
            · have HN := fd_no hlt HL he
              go_wp2_with (go_at_call 42; refine (HX4.out _ (by omega)).mono ?_; rintro e w5 ⟨rfl, hb5⟩)
              refine ⟨⟨_, _, _, _, _, _, _, _, _, _, _, _, _, ?_, rfl⟩, ?_⟩
              · exact ⟨k + 1, by omega, by go_num, (by repeat (first | exact Below.refl _ _ | refine Below.alloc ?_ (by first | omega | (simp; done) | (simp; omega)) _ | apply Below.drew | apply below_drewN | refine Below.setCell ?_ (by first | omega | (simp; done) | (simp; omega)) _ | refine Below.trans ?_ (Below.mono (by assumption) (by first | omega | (simp; done) | (simp; omega))))), HN⟩
              · show l.length - ((k : Int) + 1).toNat < l.length - (k : Int).toNat
                omega
            · have HF2 : Hid (fdV l p q = .tuple #[.int .i64 k, .int .i64 0]) := Lib.hid (by unfold fdV; rw [HF.out, fd_yes hlt HL he])
              go_wp2_with (go_at_call 42; refine (HX4.out _ (by omega)).mono ?_; rintro e w5 ⟨rfl, hb5⟩)
              rw [HF2.out]; exact bodyPost_ret (by simp [results, Try.results22, go_sem]; try rfl) rfl ⟨rfl, (by repeat (first | exact Below.refl _ _ | refine Below.alloc ?_ (by first | omega | (simp; done) | (simp; omega)) _ | apply Below.drew | apply below_drewN | refine Below.setCell ?_ (by first | omega | (simp; done) | (simp; omega)) _ | refine Below.trans ?_ (Below.mono (by assumption) (by first | omega | (simp; done) | (simp; omega)))))⟩
          · have HF2 : Hid (fdV l p q = .tuple #[.int .i64 0, .int .i64 10]) := Lib.hid (by unfold fdV; rw [HF.out, fd_end (by omega) HL])
            go_wp2
            rw [HF2.out]; exact bodyPost_ret (by simp [results, Try.results22, go_sem]; try rfl) rfl ⟨rfl, hb⟩
      · rw [HCK _ _ hx hy] at HK
        have HF : Hid (fdV l p q = .tuple #[.int .i64 0, .int .i64 6]) := Lib.hid (by unfold fdV; rw [HFF, hx, hy]; rfl)
        clear HFF HCK hok hso hg za zb
        go_enter Try.func22, Try.ntmps22
        go_wp2_with (first | (go_at_call 20; refine HK.mono ?_; rintro e w1 ⟨rfl, hb1⟩; have z1 := hb1.size) | (go_at_call 45; refine (HQ.out _ (HH.out.below hb1 (Nat.le_refl _))).mono ?_; rintro e w2 ⟨rfl, hb2⟩))
        rw [HF.out]; exact bodyPost_ret (by simp [results, Try.results22, go_sem]; try rfl) rfl ⟨rfl, (by repeat (first | exact Below.refl _ _ | refine Below.alloc ?_ (by first | omega | (simp; done) | (simp; omega)) _ | apply Below.drew | apply below_drewN | refine Below.setCell ?_ (by first | omega | (simp; done) | (simp; omega)) _ | refine Below.trans ?_ (Below.mono (by assumption) (by first | omega | (simp; done) | (simp; omega)))))⟩
    · cases hy : (b.toList == q.toList)
      · rw [HCK _ _ hx hy] at HK
        have HF : Hid (fdV l p q = .tuple #[.int .i64 0, .int .i64 6]) := Lib.hid (by unfold fdV; rw [HFF, hx, hy]; rfl)
        clear HFF HCK hok hso hg za zb
        go_enter Try.func22, Try.ntmps22
        go_wp2_with (first | (go_at_call 20; refine HK.mono ?_; rintro e w1 ⟨rfl, hb1⟩; have z1 := hb1.size) | (go_at_call 45; refine (HQ.out _ (HH.out.below hb1 (Nat.le_refl _))).mono ?_; rintro e w2 ⟨rfl, hb2⟩))
        rw [HF.out]; exact bodyPost_ret (by simp [results, Try.results22, go_sem]; try rfl) rfl ⟨rfl, (by repeat (first | exact Below.refl _ _ | refine Below.alloc ?_ (by first | omega | (simp; done) | (simp; omega)) _ | apply Below.drew | apply below_drewN | refine Below.setCell ?_ (by first | omega | (simp; done) | (simp; omega)) _ | refine Below.trans ?_ (Below.mono (by assumption) (by first | omega | (simp; done) | (simp; omega)))))⟩
      · rw [HCK _ _ hx hy] at HK
        have HF : Hid (fdV l p q = .tuple #[.int .i64 (-1), .int .i64 0]) := Lib.hid (by unfold fdV; rw [HFF, hx, hy]; rfl)
        clear HFF HCK hok hso hg za zb
        go_enter Try.func22, Try.ntmps22
        go_wp2_with (first | (go_at_call 20; refine HK.mono ?_; rintro e w1 ⟨rfl, hb1⟩; have z1 := hb1.size))
        rw [HF.out]; exact bodyPost_ret (by simp [results, Try.results22, go_sem]; try rfl) rfl ⟨rfl, (by repeat (first | exact Below.refl _ _ | refine Below.alloc ?_ (by first | omega | (simp; done) | (simp; omega)) _ | apply Below.drew | apply below_drewN | refine Below.setCell ?_ (by first | omega | (simp; done) | (simp; omega)) _ | refine Below.trans ?_ (Below.mono (by assumption) (by first | omega | (simp; done) | (simp; omega)))))⟩
end Go.Proofs.Ytkdadaocbfbndaa
