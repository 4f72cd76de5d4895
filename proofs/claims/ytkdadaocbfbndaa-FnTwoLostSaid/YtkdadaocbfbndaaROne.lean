/- RestoreOne, impl and spec: the law and the walks. -/
import Derived.Test.YtkdadaocbfbndaaLeftI2
import Derived.Test.YtkdadaocbfbndaaSizeW
import Derived.Test.YtkdadaocbfbndaaParLaw
namespace Go.Proofs.Ytkdadaocbfbndaa
set_option linter.unusedVariables false
open Go.RowKit
theorem kn_mem {L : List Int} {j k : Nat} {bl : List ByteArray} {b : ByteArray} (h : bl[k]? = some b) (hh : hasB L (j + k) = false) : b ∈ knF L j bl := by
  induction bl generalizing j k with
  | nil => simp at h
  | cons a r ih =>
    unfold knF
    cases k with
    | zero =>
      obtain rfl : a = b := by simpa using h
      rw [if_neg (by rw [show j = j + 0 by omega, hh]; decide)]
      exact List.mem_cons_self
    | succ k =>
      have := ih (j := j + 1) (k := k) (by simpa using h) (by rw [← hh]; congr 1; omega)
      split
      · exact this
      · exact List.mem_cons_of_mem _ this
theorem left_sizes {L : List Int} {bl mo : List ByteArray} {n : Nat} (h : allS n (ktF bl L mo)) : ∀ s ∈ leftG L bl, s.size = 0 ∨ s.size = n := by
  intro s hs
  obtain ⟨k, hk, he⟩ := List.mem_iff_getElem.1 hs
  rw [left_len] at hk
  have h1 := left_get (L := L) (List.getElem?_eq_getElem hk)
  rw [List.getElem?_eq_getElem (by rw [left_len]; exact hk), he] at h1
  obtain rfl := Option.some.inj h1
  cases hh : hasB L k
  · exact .inr (h _ (List.mem_append_left _ (kn_mem (j := 0) (List.getElem?_eq_getElem hk) (by rw [Nat.zero_add]; exact hh))))
  · exact .inl rfl
theorem bts_zero (n : Nat) : bts (strN (List.replicate n 0)) = List.replicate n 0 := bts_strN zeros_lt
theorem plus_zero {p : List Nat} {f n : Nat} (hp : p.length = n) : plusN p f (List.replicate n 0) = p := by
  refine List.ext_getElem (by simp [plusN, hp]) fun k h1 h2 => ?_
  simp [plusN, gmul_of_zero]
theorem par_zer {L : List Int} {n k : Nat} {l : List ByteArray} {p q : List Nat} (hn : n ≠ 0) (hp : p.length = n) (hq : q.length = n) (hl : ∀ i b, l[i]? = some b → hasB L (k + i) = false → b.size = n) :
    parF p q k (l.mapIdx fun i b => if hasB L (k + i) = true then strN (List.replicate n 0) else b) = parF p q k (l.mapIdx fun i b => if hasB L (k + i) = true then .empty else b) := by
  induction l generalizing k p q with
  | nil => rfl
  | cons b r ih =>
    rw [List.mapIdx_cons, List.mapIdx_cons]
    have hstep : ∀ (z : ByteArray), (r.mapIdx fun i b => if hasB L (k + (i + 1)) = true then z else b) = (r.mapIdx fun i b => if hasB L (k + 1 + i) = true then z else b) := fun z => by
      congr 1; funext i b; rw [show k + (i + 1) = k + 1 + i by omega]
    rw [hstep, hstep]
    have hl' : ∀ i b, r[i]? = some b → hasB L (k + 1 + i) = false → b.size = n := fun i b' hb hh => hl (i + 1) b' (by simpa using hb) (by rw [← hh]; congr 1; omega)
    by_cases hb : hasB L (k + 0) = true
    · rw [if_pos hb, if_pos hb]
      unfold parF
      rw [if_neg (by rw [strN_size]; simpa using hn), if_pos (by rfl), bts_zero, plus_zero hp, plus_zero hq]
      exact ih hp hq hl'
    · rw [if_neg hb, if_neg hb]
      have hbs := hl 0 b rfl (by simpa using hb)
      unfold parF
      split
      · exact ih hp hq hl'
      · exact ih (by rw [plusN_len (by rw [bts_len]; omega)]; exact hp) (by rw [plusN_len (by rw [bts_len]; omega)]; exact hq) hl'
theorem par_left {L : List Int} {n : Nat} {bl mo : List ByteArray} (hn : n ≠ 0) (h : allS n (ktF bl L mo)) : parF (List.replicate n 0) (List.replicate n 0) 0 (zerL n L bl) = parF (List.replicate n 0) (List.replicate n 0) 0 (leftG L bl) := by
  have := par_zer (L := L) (k := 0) (l := bl) (p := List.replicate n 0) (q := List.replicate n 0) hn (List.length_replicate) (List.length_replicate) (fun i b hb hh => h b (List.mem_append_left _ (kn_mem (j := 0) hb hh)))
  simp only [Nat.zero_add] at this
  exact this
def r1K (bl : List ByteArray) (i : Int) (p : ByteArray) : Nat := szK bl.length (ktF bl [i] [p])
def r1X (bl : List ByteArray) (i : Int) (p : ByteArray) : List Nat := xorN (parF (List.replicate (r1K bl i p) 0) (List.replicate (r1K bl i p) 0) 0 (leftG [i] bl)).1 (bts p)
def r1E (bl : List ByteArray) (i : Int) (p : ByteArray) : ByteArray × Int :=
  if inB i 0 ((bl.length : Int) - 1) = false then (.empty, 2) else if r1K bl i p = 0 ∨ p.size = 0 then (.empty, 1) else (strN (r1X bl i p), 0)
def r1V (bl : List ByteArray) (i : Int) (p : ByteArray) : Value := .tuple #[.string (r1E bl i p).1, .int .i64 (r1E bl i p).2]
theorem r1_2 {bl : List ByteArray} {i : Int} {p : ByteArray} (h : inB i 0 ((bl.length : Int) - 1) = false) : r1V bl i p = .tuple #[.string .empty, .int .i64 2] := by unfold r1V r1E; rw [if_pos h]
theorem r1_1 {bl : List ByteArray} {i : Int} {p : ByteArray} (h : inB i 0 ((bl.length : Int) - 1) = true) (h1 : r1K bl i p = 0 ∨ p.size = 0) : r1V bl i p = .tuple #[.string .empty, .int .i64 1] := by unfold r1V r1E; rw [if_neg (by rw [h]; decide), if_pos h1]
theorem r1_0 {bl : List ByteArray} {i : Int} {p : ByteArray} (h : inB i 0 ((bl.length : Int) - 1) = true) (h1 : ¬ (r1K bl i p = 0 ∨ p.size = 0)) : r1V bl i p = .tuple #[.string (strN (r1X bl i p)), .int .i64 0] := by unfold r1V r1E; rw [if_neg (by rw [h]; decide), if_neg h1]
set_option maxRecDepth 20000 in
set_option maxHeartbeats 4000000 in
theorem r1_i (B : Nat) (bl : List ByteArray) (i : Int) (p : ByteArray) (v : Value) (w : World) (h : StringL B w v bl) (hn : bl.length ≤ 1048576) (hp : p.size ≤ 1048576) (hi : -9223372036854775808 ≤ i ∧ i ≤ 9223372036854775807) :
    Calls Try.prog 24 #[v, .int .i64 i, .string p] w fun e w' => e = .returned (r1V bl i p) ∧ Below w.heap.size w w' := by
  have HO := Lib.hid h
  obtain ⟨A, c, rfl, _⟩ := h.shape
  cases hin : inB i 0 ((bl.length : Int) - 1)
  · have HF := Lib.hid (r1_2 (p := p) hin)
    clear h
    go_enter Try.func24, Try.ntmps24
    go_wp2_with (first | (go_at_call 40; refine (within_i _ _ _ _).mono ?_; rintro e w1 ⟨rfl, rfl⟩) | go_in)
    exact bodyPost_ret (v := .tuple #[.string .empty, .int .i64 2]) (by simp [results, Try.results24, go_sem] <;> rfl) rfl ⟨by rw [HF.out], Below.refl _ _⟩
  · obtain ⟨i1, i2⟩ := inB_yes hin
    have HBb : Below w.heap.size w ((w.alloc (.cells #[.int .i64 i] 2)).alloc (.cells #[.string p] 9)) := (by repeat (first | exact Below.refl _ _ | refine Below.alloc ?_ (by first | omega | (simp; done) | (simp; omega)) _ | apply Below.drew | apply below_drewN | refine Below.setCell ?_ (by first | omega | (simp; done) | (simp; omega)) _ | refine Below.trans ?_ (Below.mono (by assumption) (by first | omega | (simp; done) | (simp; omega)))))
    have HLO := Lib.hid (leftOver_i B bl [p] [i] (.slice A bl.length c) (.slice (some ⟨w.heap.size, 0, none⟩) 1 1) (.slice (some ⟨w.heap.size + 1, 0, none⟩) 1 1) ((w.alloc (.cells #[.int .i64 i] 2)).alloc (.cells #[.string p] 9)) (OwnL.below HO.out HBb)
      ⟨_, _, rfl, .inr ⟨w.heap.size, rfl, by simp; omega, fun k x hk => by
        cases k with
        | zero => (obtain rfl : i = x := by simpa using hk); simp
        | succ k => simp at hk⟩⟩
      ⟨_, _, rfl, .inr ⟨w.heap.size + 1, rfl, by simp, fun k s hk => by
        cases k with
        | zero => (obtain rfl : p = s := by simpa using hk); simp
        | succ k => simp at hk⟩⟩ hn (by simp) (by simp) (by intro x hx; obtain rfl : x = i := by simpa using hx
                                                            omega))
    have hK : szK bl.length (ktF bl [i] [p]) = r1K bl i p := rfl
    unfold LeftR at HLO
    rw [hK] at HLO
    have HK := Lib.hid hK
    clear h
    by_cases hz : r1K bl i p = 0 ∨ p.size = 0
    · have HF := Lib.hid (r1_1 hin hz)
      have hcc : (((r1K bl i p : Nat) : Int) == 0) = true ∨ ((((r1K bl i p : Nat) : Int) == 0) = false ∧ p.toList.isEmpty = true) := by
        by_cases h0 : r1K bl i p = 0
        · exact .inl (by rw [h0]; rfl)
        · exact .inr ⟨by rw [beq_eq_false_iff_ne]; omega, emp_yes (hz.resolve_left h0)⟩
      clear hz hK HK
      generalize r1K bl i p = n at *
      rcases hcc with hc | ⟨hc, hc2⟩
      · go_enter Try.func24, Try.ntmps24
        go_wp2_with (first | (go_at_call 40; refine (within_i _ _ _ _).mono ?_; rintro e w1 ⟨rfl, rfl⟩) | (go_at_call 47; refine HLO.out.mono ?_; rintro e w3 hh; obtain ⟨v3, rfl, hown, ⟨A3, n3, c3, rfl⟩, hb3⟩ := hh) | go_in)
        exact bodyPost_ret (v := .tuple #[.string .empty, .int .i64 1]) (by simp [results, Try.results24, go_sem] <;> rfl) rfl ⟨by rw [HF.out], HBb.trans (hb3.mono (by simp; omega))⟩
      · go_enter Try.func24, Try.ntmps24
        go_wp2_with (first | (go_at_call 40; refine (within_i _ _ _ _).mono ?_; rintro e w1 ⟨rfl, rfl⟩) | (go_at_call 47; refine HLO.out.mono ?_; rintro e w3 hh; obtain ⟨v3, rfl, hown, ⟨A3, n3, c3, rfl⟩, hb3⟩ := hh) | go_in)
        exact bodyPost_ret (v := .tuple #[.string .empty, .int .i64 1]) (by simp [results, Try.results24, go_sem] <;> rfl) rfl ⟨by rw [HF.out], HBb.trans (hb3.mono (by simp; omega))⟩
    · have HF := Lib.hid (r1_0 hin hz)
      have hz1 : ¬ r1K bl i p = 0 := fun h => hz (.inl h)
      have hz2 : ¬ p.size = 0 := fun h => hz (.inr h)
      obtain ⟨k1, k2, k3, k4⟩ := (szK_pos hz1).1 hK
      have hps : p.size = r1K bl i p := k2 p (List.mem_append_right _ (by rw [ne_c, if_neg (by rw [emp_no hz2]; decide)]; exact List.mem_cons_self))
      have hd1 : (((r1K bl i p : Nat) : Int) == 0) = false := by rw [beq_eq_false_iff_ne]; omega
      have hd2 : p.toList.isEmpty = false := emp_no hz2
      have hsz := left_sizes k2
      have hplen := (parF_len (p := List.replicate (r1K bl i p) 0) (q := List.replicate (r1K bl i p) 0) (k := 0) (l := leftG [i] bl) List.length_replicate List.length_replicate hsz).1
      have hplt := (parF_lt (p := List.replicate (r1K bl i p) 0) (q := List.replicate (r1K bl i p) 0) (k := 0) (l := leftG [i] bl) zeros_lt zeros_lt).1
      have HP := Lib.hid (fun (v : Value) (w' : World) (hs : StrL w' v (leftG [i] bl)) => parity_i (leftG [i] bl) (r1K bl i p) v w' hs (by rw [left_len]; omega) hsz (by omega))
      have HXX : Hid (r1X bl i p = xorN (parF (List.replicate (r1K bl i p) 0) (List.replicate (r1K bl i p) 0) 0 (leftG [i] bl)).1 (bts p)) := Lib.hid rfl
      generalize (parF (List.replicate (r1K bl i p) 0) (List.replicate (r1K bl i p) 0) 0 (leftG [i] bl)).1 = X at *
      generalize (parF (List.replicate (r1K bl i p) 0) (List.replicate (r1K bl i p) 0) 0 (leftG [i] bl)).2 = Y at *
      have HXR := Lib.hid (fun w' => xor_i (strN X) p w' (by rw [strN_size]; omega) (by omega))
      have HBX := Lib.hid (bts_strN hplt)
      have HNZ := Lib.hid hz1
      clear hz hK HK k1 k2 hsz hz1 hz2 hplt
      generalize r1K bl i p = n at *
      go_enter Try.func24, Try.ntmps24
      go_wp2_with (first | (go_at_call 40; refine (within_i _ _ _ _).mono ?_; rintro e w1 ⟨rfl, rfl⟩) | (go_at_call 47; refine HLO.out.mono ?_; rintro e w3 hh; obtain ⟨v3, rfl, hown, ⟨A3, n3, c3, rfl⟩, hb3⟩ := hh) | (go_at_call 45; refine (HP.out _ _ (strL_own (hown HNZ.out))).mono ?_; rintro e w4 ⟨rfl, hb4⟩) | (go_at_call 41; refine (HXR.out _).mono ?_; rintro e w5 ⟨rfl, hb5⟩) | go_in)
      have z3 := hb3.size
      have z4 := hb4.size
      have HB3 : Below w.heap.size w w3 := HBb.trans (hb3.mono (by simp; omega))
      have zz := HB3.size
      have HB5 : Below w.heap.size w w5 := HB3.trans ((hb4.trans (hb5.mono z4)).mono zz)
      rw [HBX.out]
      exact bodyPost_ret (v := .tuple #[.string (strN (xorN X (bts p))), .int .i64 0]) (by simp [results, Try.results24, go_sem] <;> rfl) rfl ⟨by rw [HF.out, HXX.out], HB5⟩
end Go.Proofs.Ytkdadaocbfbndaa
