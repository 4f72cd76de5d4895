/- UpdateParity, impl and spec: the walks. -/
import Derived.Test.YtkdadaocbfbndaaGroup2
import Derived.Test.YtkdadaocbfbndaaScaled
import Derived.Test.YtkdadaocbfbndaaPlus
namespace Go.Proofs.Ytkdadaocbfbndaa
set_option linter.unusedVariables false
open Go.RowKit

theorem upd_p {P B A : List Nat} {n : Nat} (hP : P.length = n) (hB : B.length = n) (hA : A.length = n) : xorN P (xorN B A) = plusN (plusN P 1 B) 1 A := by
  apply List.ext_getElem
  · simp [xorN, plusN, hP, hB, hA]
  · intro i h1 h2
    simp [xorN, plusN, gmul_one, Nat.xor_assoc]
theorem upd_q {Q B A : List Nat} {n f : Nat} (hQ : Q.length = n) (hB : B.length = n) (hA : A.length = n) (bB : ∀ x ∈ B, x < 256) (bA : ∀ x ∈ A, x < 256) : xorN Q (scN f (xorN B A)) = plusN (plusN Q f B) f A := by
  apply List.ext_getElem
  · simp [xorN, plusN, scN, hQ, hB, hA]
  · intro i h1 h2
    simp only [xorN, plusN, scN, List.getElem_zipWith, List.getElem_map]
    rw [gmul_lin (bB _ (List.getElem_mem _)) (bA _ (List.getElem_mem _)), Nat.xor_assoc]
def updR (p q : ByteArray) (x : Int) (b a : ByteArray) : Value :=
  if groupB [p, q, b, a] then
    if inB x 0 127 then .tuple #[.string (strN (plusN (plusN (bts p) 1 (bts b)) 1 (bts a))), .string (strN (plusN (plusN (bts q) (gpow (m255 x)) (bts b)) (gpow (m255 x)) (bts a))), .int .i64 0]
    else .tuple #[.string .empty, .string .empty, .int .i64 2]
  else .tuple #[.string .empty, .string .empty, .int .i64 1]
theorem group4 {p q b a : ByteArray} : groupB [p, q, b, a] = (decide (1 ≤ p.size) && decide (p.size ≤ 64) && decide (q.size = p.size) && decide (b.size = p.size) && decide (a.size = p.size)) := by
  unfold groupB sizesAre
  simp [Bool.and_assoc]
set_option maxHeartbeats 1000000 in
theorem update_i (p q b a : ByteArray) (x : Int) (w : World) (hx : -9223372036854775808 ≤ x ∧ x ≤ 9223372036854775807) :
    Calls Try.prog 13 #[.string p, .string q, .int .i64 x, .string b, .string a] w fun e w' => e = .returned (updR p q x b a) ∧ Below w.heap.size w w' := by
  have hS : ∀ c, StrL (w.alloc (.cells #[.string p, .string q, .string b, .string a] 9)) (.slice (some ⟨w.heap.size, 0, none⟩) 4 c) [p, q, b, a] := fun c =>
    ⟨_, c, rfl, .inr ⟨_, rfl, by simp, fun k s hk => by
      match k, hk with
      | 0, hk => simp at hk; subst hk; simp
      | 1, hk => simp at hk; subst hk; simp
      | 2, hk => simp at hk; subst hk; simp
      | 3, hk => simp at hk; subst hk; simp
      | k + 4, hk => simp at hk⟩⟩
  have HS := Lib.hid hS
  clear hS
  cases hg : groupB [p, q, b, a]
  · have HF : Hid (updR p q x b a = .tuple #[.string .empty, .string .empty, .int .i64 1]) := Lib.hid (by unfold updR; rw [hg]; rfl)
    go_enter Try.func13, Try.ntmps13
    go_wp2_with (go_at_call 39; refine (group_i [p, q, b, a] _ _ (HS.out _) (by unfold maxLen; simp)).mono ?_; rintro e w1 ⟨rfl, hb1⟩)
    rw [HF.out]
    exact bodyPost_ret (by simp [results, Try.results13, go_sem]; try rfl) rfl ⟨rfl, (by repeat (first | exact Below.refl _ _ | refine Below.alloc ?_ (by first | omega | (simp; done) | (simp; omega)) _ | apply Below.drew | apply below_drewN | refine Below.setCell ?_ (by first | omega | (simp; done) | (simp; omega)) _ | refine Below.trans ?_ (Below.mono (by assumption) (by first | omega | (simp; done) | (simp; omega)))))⟩
  · cases hi : inB x 0 127
    · have HF : Hid (updR p q x b a = .tuple #[.string .empty, .string .empty, .int .i64 2]) := Lib.hid (by unfold updR; rw [hg, hi]; rfl)
      go_enter Try.func13, Try.ntmps13
      go_wp2_with (first | (go_at_call 39; refine (group_i [p, q, b, a] _ _ (HS.out _) (by unfold maxLen; simp)).mono ?_; rintro e w1 ⟨rfl, hb1⟩) | (go_at_call 40; refine (within_i _ _ _ _).mono ?_; rintro e w1 ⟨rfl, rfl⟩))
      rw [HF.out]
      exact bodyPost_ret (by simp [results, Try.results13, go_sem]; try rfl) rfl ⟨rfl, (by repeat (first | exact Below.refl _ _ | refine Below.alloc ?_ (by first | omega | (simp; done) | (simp; omega)) _ | apply Below.drew | apply below_drewN | refine Below.setCell ?_ (by first | omega | (simp; done) | (simp; omega)) _ | refine Below.trans ?_ (Below.mono (by assumption) (by first | omega | (simp; done) | (simp; omega)))))⟩
    · have HF : Hid (updR p q x b a = .tuple #[.string (strN (plusN (plusN (bts p) 1 (bts b)) 1 (bts a))), .string (strN (plusN (plusN (bts q) (gpow (m255 x)) (bts b)) (gpow (m255 x)) (bts a))), .int .i64 0]) := Lib.hid (by unfold updR; rw [hg, hi]; rfl)
      have hg4 := hg
      rw [group4] at hg4
      simp only [Bool.and_eq_true, decide_eq_true_eq] at hg4
      obtain ⟨⟨⟨⟨hp1, hp2⟩, hq⟩, hbz⟩, haz⟩ := hg4
      have hpl := bts_len p
      have hql := bts_len q
      have hbl := bts_len b
      have hal := bts_len a
      have e1 : bts (strN (xorN (bts b) (bts a))) = xorN (bts b) (bts a) := bts_strN (xorN_lt bts_lt bts_lt)
      have e2 : bts (strN (scN (gpow (m255 x)) (xorN (bts b) (bts a)))) = scN (gpow (m255 x)) (xorN (bts b) (bts a)) := bts_strN (scN_lt (xorN_lt bts_lt bts_lt))
      have z1 : (strN (xorN (bts b) (bts a))).size = p.size := by rw [strN_size, xorN_len (by omega)]; omega
      have z2 : (strN (scN (gpow (m255 x)) (xorN (bts b) (bts a)))).size = p.size := by rw [strN_size, scN_len, xorN_len (by omega)]; omega
      have X1 := fun w => xor_i b a w (by omega) (by omega)
      have X2 := fun w => xor_i p (strN (xorN (bts b) (bts a))) w (by omega) (by omega)
      have X3 := fun w => scaled_i (strN (xorN (bts b) (bts a))) x w (by omega) hx
      rw [e1] at X3
      have X4 := fun w => xor_i q (strN (scN (gpow (m255 x)) (xorN (bts b) (bts a)))) w (by omega) (by omega)
      rw [e1, upd_p (hpl.trans rfl) (by omega) (by omega)] at X2
      rw [e2, upd_q (n := p.size) (by omega) (by omega) (by omega) bts_lt bts_lt] at X4
      clear e1 e2 z1 z2 hpl hql hbl hal
      have HX1 := Lib.hid X1
      have HX2 := Lib.hid X2
      have HX3 := Lib.hid X3
      have HX4 := Lib.hid X4
      clear X1 X2 X3 X4
      go_enter Try.func13, Try.ntmps13
      go_wp2_with (first | (go_at_call 39; refine (group_i [p, q, b, a] _ _ (HS.out _) (by unfold maxLen; simp)).mono ?_; rintro e w1 ⟨rfl, hb1⟩) | (go_at_call 40; refine (within_i _ _ _ _).mono ?_; rintro e w1 ⟨rfl, rfl⟩))
      refine (HX1.out _).mono ?_; rintro e w2 ⟨rfl, hb2⟩
      go_wp2_with (fail)
      refine (HX2.out _).mono ?_; rintro e w3 ⟨rfl, hb3⟩
      go_wp2_with (go_at_call 42; refine (HX3.out _).mono ?_; rintro e w4 ⟨rfl, hb4⟩)
      refine (HX4.out _).mono ?_; rintro e w5 ⟨rfl, hb5⟩
      have z1 := hb1.size
      have z2 := hb2.size
      have z3 := hb3.size
      have z4 := hb4.size
      have z0 : (w.alloc (.cells #[.string p, .string q, .string b, .string a] 9)).heap.size = w.heap.size + 1 := by simp
      go_wp2
      rw [HF.out]
      exact bodyPost_ret (by simp [results, Try.results13, go_sem]; try rfl) rfl ⟨rfl, (by repeat (first | exact Below.refl _ _ | refine Below.alloc ?_ (by first | omega | (simp; done) | (simp; omega)) _ | apply Below.drew | apply below_drewN | refine Below.setCell ?_ (by first | omega | (simp; done) | (simp; omega)) _ | refine Below.trans ?_ (Below.mono (by assumption) (by first | omega | (simp; done) | (simp; omega)))))⟩
theorem quiet_plus0 (g c f : Nat) (l : List Nat) (s : ByteArray) (hl1 : l.length ≤ s.size) (hs : s.size ≤ 2097152) (hf : f < 256) (hlb : ∀ x ∈ l, x < 256) :
    Hid (∀ w : World, g < w.heap.size → Buf w g l → Calls Try.prog 37 #[.slice (some ⟨g, 0, none⟩) l.length c, .int .i64 f, .string s] w fun e w' => e = .returned (.tuple #[]) ∧ Buf w' g (plusN l f (bts s)) ∧ Chg g (g + 1) w w' ∧ w'.heap.size = w.heap.size) :=
  Lib.hid fun w hg hB => plus_s g c f l s w hg hB hl1 hs hf hlb
set_option maxHeartbeats 1000000 in
theorem update_s (p q b a : ByteArray) (x : Int) (w : World) (hx : -9223372036854775808 ≤ x ∧ x ≤ 9223372036854775807) :
    Calls Try.prog 12 #[.string p, .string q, .int .i64 x, .string b, .string a] w fun e w' => e = .returned (updR p q x b a) ∧ Below w.heap.size w w' := by
  cases hg : groupB [p, q, b, a]
  · have HF : Hid (updR p q x b a = .tuple #[.string .empty, .string .empty, .int .i64 1]) := Lib.hid (by unfold updR; rw [hg]; rfl)
    rw [group4] at hg
    have hin : inB p.size 1 64 = (decide (1 ≤ p.size) && decide (p.size ≤ 64)) := by
      unfold inB
      congr 1 <;> (apply decide_eq_decide.2; omega)
    rw [← hin] at hg
    cases hpz : inB p.size 1 64
    · clear hg hin
      go_enter Try.func12, Try.ntmps12
      go_wp2_with (first | (go_at_call 36; refine (in_s _ _ _ _).mono ?_; rintro e w1 ⟨rfl, rfl⟩))
      rw [HF.out]
      exact bodyPost_ret (by simp [results, Try.results12, go_sem]; try rfl) rfl ⟨rfl, (by repeat (first | exact Below.refl _ _ | refine Below.alloc ?_ (by first | omega | (simp; done) | (simp; omega)) _ | apply Below.drew | apply below_drewN | refine Below.setCell ?_ (by first | omega | (simp; done) | (simp; omega)) _ | refine Below.trans ?_ (Below.mono (by assumption) (by first | omega | (simp; done) | (simp; omega)))))⟩
    · rw [hpz] at hg
      clear hin
      have hd : ¬ (q.size = p.size ∧ b.size = p.size ∧ a.size = p.size) := by
        rintro ⟨h1, h2, h3⟩
        simp [h1, h2, h3] at hg
      clear hg
      go_enter Try.func12, Try.ntmps12
      go_wp2_with (first | (go_at_call 36; refine (in_s _ _ _ _).mono ?_; rintro e w1 ⟨rfl, rfl⟩))
      all_goals (rw [HF.out]; exact bodyPost_ret (by simp [results, Try.results12, go_sem]; try rfl) rfl ⟨rfl, (by repeat (first | exact Below.refl _ _ | refine Below.alloc ?_ (by first | omega | (simp; done) | (simp; omega)) _ | apply Below.drew | apply below_drewN | refine Below.setCell ?_ (by first | omega | (simp; done) | (simp; omega)) _ | refine Below.trans ?_ (Below.mono (by assumption) (by first | omega | (simp; done) | (simp; omega)))))⟩)
  · have hg4 := hg
    rw [group4] at hg4
    simp only [Bool.and_eq_true, decide_eq_true_eq] at hg4
    obtain ⟨⟨⟨⟨hp1, hp2⟩, hq⟩, hbz⟩, haz⟩ := hg4
    have b0 : inB p.size 1 64 = true := inB_t (by omega)
    cases hi : inB x 0 127
    · have HF : Hid (updR p q x b a = .tuple #[.string .empty, .string .empty, .int .i64 2]) := Lib.hid (by unfold updR; rw [hg, hi]; rfl)
      clear hg
      go_enter Try.func12, Try.ntmps12
      go_wp2_with (first | (go_at_call 36; refine (in_s _ _ _ _).mono ?_; rintro e w1 ⟨rfl, rfl⟩))
      rw [HF.out]
      exact bodyPost_ret (by simp [results, Try.results12, go_sem]; try rfl) rfl ⟨rfl, (by repeat (first | exact Below.refl _ _ | refine Below.alloc ?_ (by first | omega | (simp; done) | (simp; omega)) _ | apply Below.drew | apply below_drewN | refine Below.setCell ?_ (by first | omega | (simp; done) | (simp; omega)) _ | refine Below.trans ?_ (Below.mono (by assumption) (by first | omega | (simp; done) | (simp; omega)))))⟩
    · have HF : Hid (updR p q x b a = .tuple #[.string (strN (plusN (plusN (bts p) 1 (bts b)) 1 (bts a))), .string (strN (plusN (plusN (bts q) (gpow (m255 x)) (bts b)) (gpow (m255 x)) (bts a))), .int .i64 0]) := Lib.hid (by unfold updR; rw [hg, hi]; rfl)
      clear hg
      have hpl := bts_len p
      have hql := bts_len q
      have hbl := bts_len b
      have hal := bts_len a
      have hgl := gpow_lt (m255 x)
      obtain ⟨c1, wa, hcv1, hba, hb1, hz1⟩ := buf_of_str w p
      obtain ⟨c2, wb, hcv2, hbb, hb2, hz2⟩ := buf_of_str wa q
      have hba2 := hba.below hb2 (by omega)
      rw [hz1] at hbb hcv2
      have Z := fun (l : List Nat) (s : ByteArray) f (h : l.length = p.size) (h' : s.size = p.size) => plusN_len (f := f) (a := l) (b := bts s) (by rw [bts_len]; omega)
      have P1 := quiet_plus0 w.heap.size c1 1 (bts p) b (by omega) (by omega) (by omega) bts_lt
      have l1 := Z (bts p) b 1 (by omega) hbz
      have P2 := quiet_plus0 w.heap.size c1 1 (plusN (bts p) 1 (bts b)) a (by omega) (by omega) (by omega) (plusN_lt bts_lt bts_lt)
      have l2 := (Z (plusN (bts p) 1 (bts b)) a 1 (by omega) haz).trans (l1.trans hpl)
      generalize hf : gpow (m255 x) = f at *
      have P3 := quiet_plus0 (w.heap.size + 1) c2 f (bts q) b (by omega) (by omega) (by omega) bts_lt
      have l3 := Z (bts q) b f (by omega) hbz
      have P4 := quiet_plus0 (w.heap.size + 1) c2 f (plusN (bts q) f (bts b)) a (by omega) (by omega) (by omega) (plusN_lt bts_lt bts_lt)
      have l4 := (Z (plusN (bts q) f (bts b)) a f (by omega) haz).trans (l3.trans (hql.trans hq))
      clear Z
      simp only [hpl, hql, hbz, haz, hq, l1, l2, l3, l4] at P1 P2 P3 P4 hcv2
      clear hp1 hp2 hba
      go_enter Try.func12, Try.ntmps12
      go_wp2_with (first | (go_at_call 36; refine (in_s _ _ _ _).mono ?_; rintro e w1 ⟨rfl, rfl⟩))
      refine (P1.out wb (by omega) hba2).mono ?_; rintro e w1 ⟨rfl, k1, ch1, s1⟩
      go_wp2_with (fail)
      refine (P2.out w1 (by omega) k1).mono ?_; rintro e w2 ⟨rfl, k2, ch2, s2⟩
      have kb := (hbb.chg ch1 (by omega) (by omega)).chg ch2 (by omega) (by omega)
      go_wp2_with (go_at_call 38; refine (gpow_s x _ hx).mono ?_; rintro e w9 ⟨rfl, rfl⟩)
      refine (P3.out w2 (by omega) kb).mono ?_; rintro e w3 ⟨rfl, k3, ch3, s3⟩
      go_wp2_with (go_at_call 38; refine (gpow_s x _ hx).mono ?_; rintro e w9 ⟨rfl, rfl⟩)
      refine (P4.out w3 (by omega) k3).mono ?_; rintro e w4 ⟨rfl, k4, ch4, s4⟩
      have ka := (k2.chg ch3 (by omega) (by omega)).chg ch4 (by omega) (by omega)
      have t1 : ∀ n, (convert 46 9 (.slice (some ⟨w.heap.size, 0, none⟩) p.size c1)).run Try.prog (w4.drewN n) = .ok (.string (strN (plusN (plusN (bts p) 1 (bts b)) 1 (bts a)))) (w4.drewN n) := fun n => Buf.str (w := w4.drewN n) ka l2
      have t2 : ∀ n, (convert 46 9 (.slice (some ⟨w.heap.size + 1, 0, none⟩) p.size c2)).run Try.prog (w4.drewN n) = .ok (.string (strN (plusN (plusN (bts q) f (bts b)) f (bts a)))) (w4.drewN n) := fun n => Buf.str (w := w4.drewN n) k4 l4
      have hbe : Below w.heap.size w w4 := (((((hb1.trans (hb2.mono hb1.size)).trans ⟨ch1.os, ch1.tape, ch1.output, ch1.size, fun k hk => ch1.block k (by omega) (by omega)⟩).trans ⟨ch2.os, ch2.tape, ch2.output, ch2.size, fun k hk => ch2.block k (by omega) (by omega)⟩).trans ⟨ch3.os, ch3.tape, ch3.output, ch3.size, fun k hk => ch3.block k (by omega) (by omega)⟩).trans ⟨ch4.os, ch4.tape, ch4.output, ch4.size, fun k hk => ch4.block k (by omega) (by omega)⟩)
      go_wp2_with (fail)
      go_quiet (fail)
      go_wp2
      rw [HF.out]
      exact bodyPost_ret (by simp [results, Try.results12, go_sem, hf]; try rfl) rfl ⟨rfl, below_drewN hbe _⟩
end Go.Proofs.Ytkdadaocbfbndaa
