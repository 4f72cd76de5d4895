/- RestoreOne of the reference: the walks. RestoreTwo: the law; the walk of the implementation. -/
import Derived.Test.YtfcdienphillnaaGreatCk28
import Derived.Test.YtfcdienphillnaaGreatCk17
import Derived.StillTailTactics
import Derived.Deep.RegionHeld3
namespace Go.Proofs.YtfcdienphillnaaGreat
set_option linter.unusedVariables false
set_option linter.unusedSimpArgs false
open Go.RowKit
theorem region_stP {P : Program} {id : Nat} {Q : Exit → Act → World → Prop} {a : Act} {w : World} {l : List Oper} (n : Nat) (hm : P.follows .mixedOrders = true) (hB : Region.lexTailB .any l.toArray n = true)
    (h : ∀ w6, w6 = w.drew → wpStill P l.toArray w6 (fun a' => wpList P l.toArray Q (l.drop n) a' w6) (l.take n) a) : (Code.region id l.toArray true).wp P Q a w := wp_region_still_tail n hm hB (h _ rfl)
theorem kt_pe (bl : List ByteArray) (L : List Int) (p : ByteArray) : ktF bl L [p, .empty] = ktF bl L [p] := by
  unfold ktF
  congr 1
  have : neF [.empty] = neF [] := by rw [ne_c, if_pos (emp_yesP rfl)]
  rw [ne_c, this, ← ne_c]
def R2One (w : World) (bl : List ByteArray) (i : Int) (p : ByteArray) (e : Ending) (w' : World) : Prop :=
  ∃ (v' : Value) (c : Int), e = .returned (.tuple #[v', .int .i64 c]) ∧ ((r1K bl i p = 0 ∧ v' = .slice none 0 0 ∧ c = 1) ∨ (r1K bl i p ≠ 0 ∧ c = 0 ∧ StringL w.heap.size w' v' ((zerL (r1K bl i p) [i] bl).set i.toNat (strN (r1X bl i p))))) ∧ Below w.heap.size w w'
theorem zer_sizes {L : List Int} {bl mo : List ByteArray} {n : Nat} (h : allSP n (ktF bl L mo)) : ∀ s ∈ zerL n L bl, s.size = n := by
  intro s hs
  obtain ⟨k, hk, he⟩ := List.mem_iff_getElem.1 hs
  rw [zer_len] at hk
  have h1 := zer_get (n := n) (L := L) (List.getElem?_eq_getElem hk)
  rw [List.getElem?_eq_getElem (by rw [zer_len]; exact hk), he] at h1
  obtain rfl := Option.some.inj h1
  cases hh : hasB L k
  · exact h _ (List.mem_append_left _ (kn_mem (j := 0) (List.getElem?_eq_getElem hk) (by rw [Nat.zero_add]; exact hh)))
  · simp [strN_size]
set_option maxRecDepth 20000 in
set_option maxHeartbeats 8000000 in
theorem r2one_s (B : Nat) (bl : List ByteArray) (i : Int) (p : ByteArray) (v : Value) (gl cl : Nat) (w : World) (h : StringL B w v bl) (hgl : gl < w.heap.size) (hcl : w.cell? ⟨gl, 0, none⟩ = some (.int .i64 i)) (hin : inB i 0 ((bl.length : Int) - 1) = true) (hn : bl.length ≤ 1048576) (hp : p.size ≤ 1048576) (hp0 : p.size ≠ 0) :
    Calls Tryz.prog 142 #[v, .slice (some ⟨gl, 0, none⟩) 1 cl, .string p, .string .empty] w fun e w' => R2One w bl i p e w' := by
  obtain ⟨i1, i2⟩ := inB_yes hin
  obtain ⟨m, rfl⟩ : ∃ m : Nat, i = (m : Int) := ⟨i.toNat, by omega⟩
  have hm : m < bl.length := by omega
  have HIA := Lib.hid (fun (w' : World) (hb : Below w.heap.size w w') => show IntsAt w' (.slice (some ⟨gl, 0, none⟩) 1 cl) [(m : Int)] from ⟨_, _, rfl, .inr ⟨gl, rfl, Nat.lt_of_lt_of_le hgl hb.size, fun k x hk => by
    cases k with
    | zero => (obtain rfl : (m : Int) = x := by simpa using hk); exact (hb.cell (p := ⟨gl, 0, none⟩) hgl).trans hcl
    | succ k => simp at hk⟩⟩)
  have HRI := Lib.hid (rises_s [(m : Int)] (.slice (some ⟨gl, 0, none⟩) 1 cl) 0 ((bl.length : Int) - 1) w (HIA.out w (Below.refl _ _)) (by simp))
  have hri : risesB 0 ((bl.length : Int) - 1) [(m : Int)] = true := by unfold risesB risesF; rw [hin]; rfl
  rw [hri] at HRI
  have hds : p.toList.isEmpty = false := emp_noP hp0
  have HO := Lib.hid h
  obtain ⟨A, c, rfl, hA⟩ := h.shape
  have HCL := Lib.hid hcl
  have hSK : szS bl [(m : Int)] [p, .empty] = r1K bl m p := by
    rw [szS_K, if_neg (by omega), kt_pe]; rfl
  clear h hcl hri
  go_enter Tryz.func142, Tryz.ntmps142
  go_wp2_with (fail)
  refine HRI.out.mono ?_; rintro e w1 ⟨rfl, hb1⟩
  have z1 := hb1.size
  have hb1p : Below w.heap.size w (w1.alloc (.cells #[.string p, .string .empty] 9)) := Below.alloc hb1 z1 _
  have HSZ := Lib.hid (size_s bl [p, .empty] [(m : Int)] (.slice A bl.length c) (.slice (some ⟨gl, 0, none⟩) 1 cl) (.slice (some ⟨w1.heap.size, 0, none⟩) 2 2) (w1.alloc (.cells #[.string p, .string .empty] 9)) (strL_own (OwnL.below HO.out hb1p)) (HIA.out _ hb1p)
    ⟨_, _, rfl, .inr ⟨w1.heap.size, rfl, by simp, fun k s hk => by
      match k, hk with
      | 0, hk => (obtain rfl : p = s := by simpa using hk); simp
      | 1, hk => (obtain rfl : ByteArray.empty = s := by simpa using hk); simp
      | k + 2, hk => simp at hk⟩⟩ hn (by simp) (by simp))
  rw [hSK] at HSZ
  clear hSK
  by_cases hz : r1K bl m p = 0
  · have HZ := Lib.hid hz
    have hd : (((r1K bl m p : Nat) : Int) == 0) = true := by rw [hz]; rfl
    clear hz
    go_wp2_with (fail)
    refine HSZ.out.mono ?_; rintro e w2 ⟨rfl, rfl⟩
    go_wp2
    exact bodyPost_ret (v := .tuple #[.slice none 0 0, .int .i64 1]) (by simp [results, Tryz.results142, go_sem]) rfl ⟨_, _, rfl, .inl ⟨HZ.out, rfl, rfl⟩, hb1p⟩
  · obtain ⟨k1, k2, k3, k4⟩ := (szK_pos hz).1 (show szK bl.length (ktF bl [(m : Int)] [p]) = r1K bl m p from rfl)
    have hd : (((r1K bl m p : Nat) : Int) == 0) = false := by rw [beq_eq_false_iff_ne]; omega
    have hps : p.size = r1K bl m p := k2 p (List.mem_append_right _ (by rw [ne_c, if_neg (by rw [emp_noP hp0]; decide)]; exact List.mem_cons_self))
    have hzs := zer_sizes k2
    have HPL := par_left (bl := bl) (mo := [p]) (L := [(m : Int)]) hz k2
    have hpl := (parF_len (p := List.replicate (r1K bl m p) 0) (q := List.replicate (r1K bl m p) 0) (k := 0) (l := leftG [(m : Int)] bl) List.length_replicate List.length_replicate (left_sizes k2)).1
    have hplt := (parF_lt (p := List.replicate (r1K bl m p) 0) (q := List.replicate (r1K bl m p) 0) (k := 0) (l := leftG [(m : Int)] bl) zeros_lt zeros_lt).1
    have HMK := Lib.hid (fun (v : Value) (w' : World) (hs : StrL w' v (zerL (r1K bl m p) [(m : Int)] bl)) => make_s (zerL (r1K bl m p) [(m : Int)] bl) (r1K bl m p) v w' hs (by rw [zer_len]; omega) hzs (by omega) (by omega))
    rw [HPL] at HMK
    have hXX : plusN (parF (List.replicate (r1K bl m p) 0) (List.replicate (r1K bl m p) 0) 0 (leftG [(m : Int)] bl)).1 1 (bts p) = r1X bl m p := plus1
    have hzl := zer_len (r1K bl m p) [(m : Int)] bl
    have HLS := Lib.hid (left_s bl [(m : Int)] (r1K bl m p) (.slice A bl.length c) (.slice (some ⟨gl, 0, none⟩) 1 cl) (w1.alloc (.cells #[.string p, .string .empty] 9)) (strL_own (OwnL.below HO.out hb1p)) (HIA.out _ hb1p) hn (by simp) (by omega))
    have hXl : (r1X bl m p).length = r1K bl m p := by rw [← hXX, plusN_len (by rw [bts_len]; omega)]; exact hpl
    have HGO : Hid (∀ (v' : Value) (w' : World), StringL w.heap.size w' v' ((zerL (r1K bl m p) [(m : Int)] bl).set m (strN (r1X bl m p))) → Below w.heap.size w w' → R2One w bl (m : Int) p (.returned (.tuple #[v', .int .i64 0])) w') := Lib.hid (fun v' w' h1 h2 => ⟨v', 0, rfl, .inr ⟨hz, rfl, by simpa using h1⟩, h2⟩)
    generalize (parF (List.replicate (r1K bl m p) 0) (List.replicate (r1K bl m p) 0) 0 (leftG [(m : Int)] bl)).1 = X at *
    generalize (parF (List.replicate (r1K bl m p) 0) (List.replicate (r1K bl m p) 0) 0 (leftG [(m : Int)] bl)).2 = Y at *
    generalize zerL (r1K bl m p) [(m : Int)] bl = zl at *
    generalize r1X bl m p = XX at *
    have HNZ := Lib.hid hz
    clear k1 k2 hzs HPL hz
    generalize r1K bl m p = n at *
    go_wp2_with (fail)
    refine HSZ.out.mono ?_; rintro e w2 ⟨rfl, rfl⟩
    go_wp2_with (fail)
    refine HLS.out.mono ?_; rintro e w3 ⟨v3, rfl, o3, hb3⟩
    have z3 := hb3.size
    have B3 : Below w.heap.size w w3 := hb1p.trans (hb3.mono (by simp; omega))
    have zw3 := B3.size
    have HM2 := Lib.hid (HMK.out v3 w3 (strL_own o3))
    have HO3 := Lib.hid o3
    obtain ⟨A3, c3, hv3, hA3⟩ := OwnL.shape o3
    rw [hzl] at hv3
    subst hv3
    obtain ⟨g3, rfl, hg3, hg3'⟩ := hA3.resolve_left (by intro h0; rw [h0] at hzl; simp at hzl; omega)
    go_wp2_with (fail)
    refine HM2.out.mono ?_; rintro e w4 ⟨rfl, hX4, hY4, hb4, hz4⟩
    have HPS := quiet_plus w3.heap.size n 1 n X p hpl (by omega) (by omega) (by omega) hplt
    go_wp2_with (fail)
    refine (HPS.out w4 (by omega) hX4).mono ?_; rintro e w5 ⟨rfl, hX5, hc5, hz5⟩
    rw [hXX] at hX5
    have B35 : Below w3.heap.size w3 w5 := Chg.below hb4 hc5 (Nat.le_refl _) (Nat.le_refl _)
    have hst := hX5.str (n := n) (c := n) hXl
    have HO5 := Lib.hid (OwnL.below HO3.out B35)
    have B5 : Below w.heap.size w w5 := B3.trans (B35.mono zw3)
    have pl5 : w5.cell? ⟨gl, 0, none⟩ = some (.int .i64 (m : Int)) := (B5.cell (p := ⟨gl, 0, none⟩) hgl).trans HCL.out
    obtain ⟨y, hy⟩ : ∃ y, zl[m]? = some y := ⟨_, List.getElem?_eq_getElem (by omega)⟩
    have pm5 : w5.cell? ⟨g3, m, none⟩ = some (.string y) := StringL.at_ HO5.out hzl hy
    have fz5 := OwnL.frozen (j := m) HO5.out
    clear hy
    go_wp2_with (fail)
    have HSET := Lib.hid (StringL.set (w := w5.drew) (k := m) (OwnL.below HO5.out ((Qt.refl w5).drew.below _)) hzl (by omega) (strN XX))
    have B6 : Below w.heap.size w w5.drew := B5.drew
    have pl6 : w5.drew.cell? ⟨gl, 0, none⟩ = some (.int .i64 (m : Int)) := pl5
    have pm6 : w5.drew.cell? ⟨g3, m, none⟩ = some (.string y) := pm5
    have fz6 : w5.drew.frozen? ⟨g3, m, none⟩ = false := fz5
    have hX6 : Buf w5.drew w3.heap.size XX := hX5.block rfl
    have hst6 := hX6.str (n := n) (c := n) hXl
    clear hX6
    refine region_stP 7 (by kernel_rfl) (by kernel_rfl) (fun w6 hw6 => ?_)
    rw [← hw6] at HSET B6 pl6 pm6 fz6 hst6
    clear hw6
    simp only [List.take_succ_cons, List.take_zero, List.drop_succ_cons, List.drop_zero]
    repeat still_step
    try refine wpStill_nil ?_
    go_wp2
    exact bodyPost_ret (v := .tuple #[.slice (some ⟨g3, 0, none⟩) bl.length c3, .int .i64 0]) (by simp [results, Tryz.results142, go_sem] <;> rfl) rfl (HGO.out _ _ (OwnL.base HSET.out (by simp; omega)) (Below.setCell B6 (by show w.heap.size ≤ g3; simp at hg3; omega) _))
end Go.Proofs.YtfcdienphillnaaGreat
namespace Go.Proofs.YtfcdienphillnaaGreat
set_option linter.unusedVariables false
set_option linter.unusedSimpArgs false
open Go.RowKit
def rK (bl : List ByteArray) (L : List Int) (p q : ByteArray) : Nat := szK bl.length (ktF bl L [p, q])
def rX (bl : List ByteArray) (L : List Int) (p q : ByteArray) : List Nat := (parF (List.replicate (rK bl L p q) 0) (List.replicate (rK bl L p q) 0) 0 (leftG L bl)).1
def rY (bl : List ByteArray) (L : List Int) (p q : ByteArray) : List Nat := (parF (List.replicate (rK bl L p q) 0) (List.replicate (rK bl L p q) 0) 0 (leftG L bl)).2
def e1 (s : ByteArray) : Nat := if s.size = 0 then 1 else 0
def cntL (L : List Int) (p q : ByteArray) : Nat := L.length + e1 p + e1 q
def fstF (X Y : List Nat) (i j : Int) (p q : ByteArray) : List Nat := scN (invF (gpow (m255 i) ^^^ gpow (m255 j))) (xorN (xorN Y (bts q)) (scN (gpow (m255 j)) (xorN X (bts p))))
def outL (le : List ByteArray) (X Y : List Nat) (p q : ByteArray) : List Int → List ByteArray
  | [i] => le.set i.toNat (if p.size = 0 then strN (scN (invF (gpow (m255 i))) (xorN Y (bts q))) else strN (xorN X (bts p)))
  | [i, j] => (le.set i.toNat (strN (fstF X Y i j p q))).set j.toNat (strN (xorN (xorN X (bts p)) (fstF X Y i j p q)))
  | _ => le
theorem out_len (le : List ByteArray) (X Y : List Nat) (p q : ByteArray) (L : List Int) : (outL le X Y p q L).length = le.length := by
  unfold outL; split <;> simp
def r2E (bl : List ByteArray) (L : List Int) (p q : ByteArray) : List ByteArray × Int :=
  if risesB 0 ((bl.length : Int) - 1) L = false then ([], 2) else if rK bl L p q = 0 ∨ bl.length = 0 then ([], 1) else if 2 < cntL L p q then ([], 10) else (outL (leftG L bl) (rX bl L p q) (rY bl L p q) p q L, 0)
theorem r2_2 {bl : List ByteArray} {L : List Int} {p q : ByteArray} (h : risesB 0 ((bl.length : Int) - 1) L = false) : r2E bl L p q = ([], 2) := by unfold r2E; rw [if_pos h]
theorem r2_1 {bl : List ByteArray} {L : List Int} {p q : ByteArray} (h : risesB 0 ((bl.length : Int) - 1) L = true) (h1 : rK bl L p q = 0 ∨ bl.length = 0) : r2E bl L p q = ([], 1) := by unfold r2E; rw [if_neg (by rw [h]; decide), if_pos h1]
theorem r2_10 {bl : List ByteArray} {L : List Int} {p q : ByteArray} (h : risesB 0 ((bl.length : Int) - 1) L = true) (h1 : ¬ (rK bl L p q = 0 ∨ bl.length = 0)) (h2 : 2 < cntL L p q) : r2E bl L p q = ([], 10) := by unfold r2E; rw [if_neg (by rw [h]; decide), if_neg h1, if_pos h2]
theorem r2_0 {bl : List ByteArray} {L : List Int} {p q : ByteArray} (h : risesB 0 ((bl.length : Int) - 1) L = true) (h1 : ¬ (rK bl L p q = 0 ∨ bl.length = 0)) (h2 : ¬ 2 < cntL L p q) : r2E bl L p q = (outL (leftG L bl) (rX bl L p q) (rY bl L p q) p q L, 0) := by unfold r2E; rw [if_neg (by rw [h]; decide), if_neg h1, if_neg h2]
theorem r2_len (bl : List ByteArray) (L : List Int) (p q : ByteArray) : (r2E bl L p q).1.length ≤ bl.length := by
  unfold r2E
  split
  · simp
  · split
    · simp
    · split
      · simp
      · rw [out_len, left_len]; exact Nat.le_refl _
theorem rises_mem {lo hi : Int} {l : List Int} : ∀ {o : Option Int}, risesF lo hi o l = true → ∀ x ∈ l, lo ≤ x ∧ x ≤ hi := by
  induction l with
  | nil => intro o _ x hx; cases hx
  | cons a r ih =>
    intro o h x hx
    rw [risesF_cons, Bool.and_eq_true, Bool.and_eq_true] at h
    cases List.mem_cons.1 hx with
    | inl h' => subst h'; exact inB_yes h.1.1
    | inr h' => exact ih h.2 x h'
/-- the facts of a group whose lost blocks are to be restored -/
structure Grp (bl : List ByteArray) (L : List Int) (p q : ByteArray) : Prop where
  n1 : rK bl L p q ≠ 0
  n2 : rK bl L p q ≤ 64
  b2 : bl.length ≤ 128
  all : allSP (rK bl L p q) (ktF bl L [p, q])
theorem grp {bl : List ByteArray} {L : List Int} {p q : ByteArray} (h : rK bl L p q ≠ 0) : Grp bl L p q := by
  obtain ⟨_, k2, k3, k4⟩ := (szK_pos h).1 (show szK bl.length (ktF bl L [p, q]) = rK bl L p q from rfl)
  exact ⟨h, k3, k4, k2⟩
theorem Grp.p {bl : List ByteArray} {L : List Int} {p q : ByteArray} (g : Grp bl L p q) (h : p.size ≠ 0) : p.size = rK bl L p q :=
  g.all p (List.mem_append_right _ (by rw [ne_c, if_neg (by rw [emp_noP h]; decide)]; exact List.mem_cons_self))
theorem Grp.q {bl : List ByteArray} {L : List Int} {p q : ByteArray} (g : Grp bl L p q) (h : q.size ≠ 0) : q.size = rK bl L p q := by
  refine g.all q (List.mem_append_right _ ?_)
  have hq : q ∈ neF [q] := by rw [ne_c, if_neg (by rw [emp_noP h]; decide)]; exact List.mem_cons_self
  rw [ne_c]
  split
  · exact hq
  · exact List.mem_cons_of_mem _ hq
theorem Grp.len {bl : List ByteArray} {L : List Int} {p q : ByteArray} (g : Grp bl L p q) : (rX bl L p q).length = rK bl L p q ∧ (rY bl L p q).length = rK bl L p q :=
  parF_len (p := List.replicate (rK bl L p q) 0) (q := List.replicate (rK bl L p q) 0) (k := 0) (l := leftG L bl) List.length_replicate List.length_replicate (left_sizes g.all)
theorem Grp.lt {bl : List ByteArray} {L : List Int} {p q : ByteArray} (_g : Grp bl L p q) : (∀ x ∈ rX bl L p q, x < 256) ∧ (∀ x ∈ rY bl L p q, x < 256) :=
  parF_lt (p := List.replicate (rK bl L p q) 0) (q := List.replicate (rK bl L p q) 0) (k := 0) (l := leftG L bl) zeros_lt zeros_lt
theorem Grp.par {bl : List ByteArray} {L : List Int} {p q : ByteArray} (g : Grp bl L p q) (v : Value) (w : World) (h : StrL w v (leftG L bl)) :
    Calls Tryz.prog 147 #[v, .int .i64 (rK bl L p q)] w fun e w' => e = .returned (.tuple #[.string (strN (rX bl L p q)), .string (strN (rY bl L p q))]) ∧ Below w.heap.size w w' :=
  parity_i (leftG L bl) (rK bl L p q) v w h (by rw [left_len]; have := g.b2; omega) (left_sizes g.all) (by have := g.n2; omega)
theorem xor_lt256 {a b : Nat} (ha : a < 256) (hb : b < 256) : a ^^^ b < 256 := Nat.xor_lt_two_pow (n := 8) ha hb
theorem scN_lt' {f : Nat} {a : List Nat} (ha : ∀ x ∈ a, x < 256) : ∀ x ∈ scN f a, x < 256 := scN_lt ha
/-- xorBytes of a string made of numbers -/
theorem xorN_i (a : List Nat) (b : ByteArray) (w : World) (ha : ∀ x ∈ a, x < 256) (hs : a.length ≤ b.size) (hb : b.size ≤ 2097152) :
    Calls Tryz.prog 148 #[.string (strN a), .string b] w fun e w' => e = .returned (.string (strN (xorN a (bts b)))) ∧ Below w.heap.size w w' := by
  have := xor_i (strN a) b w (by rw [strN_size]; exact hs) hb
  rw [bts_strN ha] at this
  exact this
theorem xorNN_i (a b : List Nat) (w : World) (ha : ∀ x ∈ a, x < 256) (hb : ∀ x ∈ b, x < 256) (hs : a.length ≤ b.length) (hl : b.length ≤ 2097152) :
    Calls Tryz.prog 148 #[.string (strN a), .string (strN b)] w fun e w' => e = .returned (.string (strN (xorN a b))) ∧ Below w.heap.size w w' := by
  have := xorN_i a (strN b) w ha (by rw [strN_size]; exact hs) (by rw [strN_size]; exact hl)
  rw [bts_strN hb] at this
  exact this
theorem unscN_i (s : List Nat) (a : Nat) (w : World) (hs : ∀ x ∈ s, x < 256) (hl : s.length ≤ 2097152) (ha : a < 256) :
    Calls Tryz.prog 149 #[.string (strN s), .int .i64 a] w fun e w' => e = .returned (.string (strN (scN (invF a) s))) ∧ Below w.heap.size w w' := by
  have := unscaled_i (strN s) a w (by rw [strN_size]; exact hl) ha
  rw [bts_strN hs] at this
  exact this
theorem scaN_i (s : List Nat) (x : Int) (w : World) (hs : ∀ x ∈ s, x < 256) (hl : s.length ≤ 2097152) (hx : -9223372036854775808 ≤ x ∧ x ≤ 9223372036854775807) :
    Calls Tryz.prog 151 #[.string (strN s), .int .i64 x] w fun e w' => e = .returned (.string (strN (scN (gpow (m255 x)) s))) ∧ Below w.heap.size w w' := by
  have := scaled_i (strN s) x w (by rw [strN_size]; exact hl) hx
  rw [bts_strN hs] at this
  exact this
theorem e1_yes {s : ByteArray} (h : s.toList.isEmpty = true) : e1 s = 1 := by unfold e1; rw [if_pos (emp_iff.1 h)]
theorem e1_no {s : ByteArray} (h : s.toList.isEmpty = false) : e1 s = 0 := by unfold e1; rw [if_neg (fun h0 => by rw [emp_yesP h0] at h; cases h)]
end Go.Proofs.YtfcdienphillnaaGreat
