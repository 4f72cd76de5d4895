/- FnFills: the walk. -/
import Derived.Test.YtklalbbacbaoiaaA2U
import Derived.Test.YtklalbbacbaoiaaAllI
namespace Go.Proofs.Ytklalbbacbaoiaa
set_option linter.unusedVariables false
open Go.RowKit
theorem bl_map : ∀ {a b : List Nat}, (∀ x ∈ a, x < 256) → (∀ x ∈ b, x < 256) → Op.bytesLess (a.map UInt8.ofNat) (b.map UInt8.ofNat) = ltL a b := by
  intro a
  induction a with
  | nil => intro b _ _; cases b with
    | nil => rfl
    | cons y b => rfl
  | cons x a ih =>
    intro b ha hb
    cases b with
    | nil => rfl
    | cons y b =>
      have hx := ha x (by simp)
      have hy := hb y (by simp)
      rw [List.map_cons, List.map_cons, Op.bytesLess, ltL, ih (fun z hz => ha z (by simp [hz])) (fun z hz => hb z (by simp [hz]))]
      have e1 : decide (UInt8.ofNat x < UInt8.ofNat y) = decide (x < y) := by
        apply decide_eq_decide.2
        rw [UInt8.lt_iff_toNat_lt, UInt8.toNat_ofNat', UInt8.toNat_ofNat', Nat.mod_eq_of_lt hx, Nat.mod_eq_of_lt hy]
      have e2 : (UInt8.ofNat x == UInt8.ofNat y) = (x == y) := by
        rw [Bool.eq_iff_iff, beq_iff_eq, beq_iff_eq, ← UInt8.toNat_inj, UInt8.toNat_ofNat', UInt8.toNat_ofNat', Nat.mod_eq_of_lt hx, Nat.mod_eq_of_lt hy]
      rw [e1, e2]
theorem strN_toList (a : List Nat) : (strN a).toList = a.map UInt8.ofNat := by
  rw [ByteArray.toList_eq, strN, strOfNums_data, List.map_map]; rfl
theorem less_str {a b : List Nat} (ha : ∀ x ∈ a, x < 256) (hb : ∀ x ∈ b, x < 256) : Op.bytesLess (strN a).toList (strN b).toList = ltL a b := by
  rw [strN_toList, strN_toList]; exact bl_map ha hb
theorem eq_str {a b : List Nat} (ha : ∀ x ∈ a, x < 256) (hb : ∀ x ∈ b, x < 256) : ((strN a).toList == (strN b).toList) = (a == b) := by
  rw [Bool.eq_iff_iff, beq_iff_eq, beq_iff_eq]
  constructor
  · intro h
    have h2 : strN a = strN b := by
      rw [ByteArray.toList_eq, ByteArray.toList_eq] at h
      exact ByteArray.ext (Array.toList_inj.1 h)
    have := congrArg bts h2
    rwa [bts_strN ha, bts_strN hb] at this
  · rintro rfl; rfl
theorem rises_of {lo hi : Int} : ∀ {l : List Int} {p : Option Int}, (∀ x ∈ l, lo ≤ x ∧ x ≤ hi) → l.Pairwise (· < ·) → (∀ y, p = some y → ∀ x ∈ l, y < x) → risesF lo hi p l = true := by
  intro l
  induction l with
  | nil => intro p _ _ _; unfold risesF; rfl
  | cons a r ih =>
    intro p h1 h2 h3
    have hp := List.pairwise_cons.1 h2
    rw [risesF_cons, Bool.and_eq_true, Bool.and_eq_true]
    refine ⟨⟨inB_t (h1 a (by simp)), ?_⟩, ih (fun x hx => h1 x (by simp [hx])) hp.2 fun y hy x hx => by cases hy; exact hp.1 x hx⟩
    cases p with
    | none => rfl
    | some y => have := h3 y rfl a (by simp); simp [gapB, this]
def xK (y i : Nat) (l : List Nat) : Nat := l.foldl (fun x b => if b / 8 = i then clrX x (b % 8) else x) y
theorem xK_lt {y i : Nat} (hy : y < 256) (l : List Nat) : xK y i l < 256 := by
  induction l generalizing y with
  | nil => exact hy
  | cons b l ih =>
    rw [xK, List.foldl_cons]
    split
    · exact ih (clrX_lt hy (Nat.mod_lt _ (by omega)))
    · exact ih hy
theorem clrX_bit {x r t : Nat} (hr : r < 8) (ht : t < 8) : (clrX x r).testBit (7 - t) = (x.testBit (7 - t) && !(r == t)) := by
  have hp := pow7 ⟨r, hr⟩ ⟨t, ht⟩
  simp only [] at hp
  have he : ((⟨r, hr⟩ : Fin 8) == ⟨t, ht⟩) = (r == t) := by rw [Bool.eq_iff_iff, beq_iff_eq, beq_iff_eq, Fin.mk.injEq]
  rw [he] at hp
  unfold clrX
  by_cases e : r = t
  · subst e
    cases h : x.testBit (7 - r)
    · simp [h]
    · rw [if_pos rfl, Nat.testBit_xor, hp, h]; simp
  · have e2 : (r == t) = false := by simpa using e
    rw [e2] at hp ⊢
    split
    · rw [Nat.testBit_xor, hp]; simp
    · simp
theorem xK_bit {i r : Nat} (hr : r < 8) (l : List Nat) (y : Nat) : (xK y i l).testBit (7 - r) = (y.testBit (7 - r) && !(l.any (· == 8 * i + r))) := by
  induction l generalizing y with
  | nil => simp [xK]
  | cons b l ih =>
    have hstep : xK y i (b :: l) = xK (if b / 8 = i then clrX y (b % 8) else y) i l := rfl
    rw [hstep, ih, List.any_cons]
    split
    · rename_i hb
      have e : (b == 8 * i + r) = (b % 8 == r) := by rw [Bool.eq_iff_iff, beq_iff_eq, beq_iff_eq]; omega
      rw [clrX_bit (Nat.mod_lt _ (by omega)) hr, e]
      cases y.testBit (7 - r) <;> cases (b % 8 == r) <;> simp
    · rename_i hb
      have e : (b == 8 * i + r) = false := by rw [beq_eq_false_iff_ne]; rintro rfl; omega
      rw [e, Bool.false_or]
theorem xK_zero {l u F : List Nat} {i : Nat} (h : Agr l u F) (hl : ∀ x ∈ l, x < 256) (hi : i < l.length) : xK (F.getD i 0 ^^^ l.getD i 0) i u = 0 := by
  have hlt : xK (F.getD i 0 ^^^ l.getD i 0) i u < 256 := xK_lt (Nat.xor_lt_two_pow (n := 8) (h.lt _ (getD_mem (by rw [h.len]; exact hi))) (hl _ (getD_mem hi))) u
  refine Nat.eq_of_testBit_eq fun t => ?_
  rw [Nat.zero_testBit]
  by_cases ht : t < 8
  · have hb := xK_bit (i := i) (r := 7 - t) (by omega) u (F.getD i 0 ^^^ l.getD i 0)
    rw [show 7 - (7 - t) = t by omega] at hb
    rw [hb, Nat.testBit_xor]
    by_cases hm : 8 * i + (7 - t) ∈ u
    · have : u.any (· == 8 * i + (7 - t)) = true := List.any_eq_true.2 ⟨_, hm, by simp⟩
      rw [this]; simp
    · have := h.off (8 * i + (7 - t)) (by omega) hm
      unfold bitAt at this
      rw [show (8 * i + (7 - t)) / 8 = i by omega, show 7 - (8 * i + (7 - t)) % 8 = t by omega] at this
      rw [this]; simp
  · have p : 2 ^ 8 ≤ 2 ^ t := Nat.pow_le_pow_right (by omega) (by omega)
    exact Nat.testBit_lt_two_pow (Nat.lt_of_lt_of_le hlt p)
theorem xK_take {y i k b : Nat} {u : List Nat} (h : u[k]? = some b) : xK y i (u.take (k + 1)) = if b / 8 = i then clrX (xK y i (u.take k)) (b % 8) else xK y i (u.take k) := by
  rw [List.take_add_one, h]
  simp [xK, Option.toList, List.foldl_append]
set_option maxRecDepth 20000 in
set_option maxHeartbeats 2000000 in
theorem agr_l (a b : ByteArray) (u : List Nat) (v : Value) (w : World) (h : IntsAt w v (intsN u)) (hu : ∀ x ∈ u, x < 8 * b.size) (hs : b.size ≤ 64) (hm : u.length ≤ 1048576) (hA : Agr (bts b) u (bts a)) :
    Calls Try.prog 48 #[.string a, .string b, v] w fun e w' => e = .returned (.bool true) ∧ Below w.heap.size w w' := by
  have hab : a.size = b.size := by have := hA.len; rwa [bts_len, bts_len] at this
  obtain ⟨A, cA, rfl, hAd⟩ := h
  rw [intsN_len]
  have HAd := Lib.hid hAd
  have HZ : Hid (∀ i, (hi : i < b.size) → xK ((a[i]'(by omega)).toNat ^^^ b[i].toNat) i u = 0) := Lib.hid (fun i hi => by
    have := xK_zero (i := i) hA bts_lt (by rw [bts_len]; exact hi)
    rwa [List.getD_eq_getElem?_getD, List.getD_eq_getElem?_getD, bts_get hi, bts_get (by omega : i < a.size)] at this)
  have HU := Lib.hid hu
  have dne : ((a.size : Int) != (b.size : Int)) = false := by simp; omega
  clear hA hAd hu
  go_enter Try.func48, Try.ntmps48
  go_wp2
  go_loopw [7] (fun i wr => ∃ k : Nat, k ≤ b.size ∧ i = .int .i64 k ∧ Below w.heap.size w wr) (fun i _ => b.size - (intOf i).toNat)
  case atStart => exact ⟨0, by omega, rfl, Below.refl _ _⟩
  case round =>
    obtain ⟨i, hi, rfl, hb⟩ := hrel
    by_cases hlt : i < b.size
    · have hlt2 : i < a.size := by omega
      have hx1 := UInt8.toNat_lt a[i]
      have hx2 := UInt8.toNat_lt b[i]
      have hxor := xor_u8 a[i].toNat b[i].toNat hx1 hx2
      have HZ0 := Lib.hid (HZ.out i hlt)
      have hww : IntKind.i64.wrap ((i : Nat) : Int) = i := by rw [IntKind.wrap_i64]; omega
      go_wp2
      go_still_tail 7, (by kernel_rfl)
      repeat still_step
      go_wp2
      go_loopw [9, 8] (fun j x wr => ∃ k y : Nat, k ≤ u.length ∧ j = .int .i64 k ∧ x = .int .u8 y ∧ y < 256 ∧ Hid (xK (a[i].toNat ^^^ b[i].toNat) i (u.take k) = y) ∧ Below w.heap.size w wr) (fun j _ _ => u.length - (intOf j).toNat)
      case atStart => exact ⟨0, a[i].toNat ^^^ b[i].toNat, by omega, rfl, by first | rfl | rw [hxor], Nat.xor_lt_two_pow (n := 8) hx1 hx2, Lib.hid rfl, by first | exact hb.drew | exact hb⟩
      case round =>
        clear hb
        obtain ⟨k, y, hk, rfl, rfl, hy, HX, hb⟩ := hrel
        by_cases hltk : k < u.length
        · obtain ⟨q, hq⟩ : ∃ q, u[k]? = some q := ⟨u[k], List.getElem?_eq_getElem hltk⟩
          obtain ⟨gu, rfl, hgu, hcu⟩ := HAd.out.resolve_left (by intro h0; have := congrArg List.length h0; rw [intsN_len] at this; simp only [List.length_nil] at this; omega)
          have p0 := (hb.cell (p := ⟨gu, k, none⟩) hgu).trans (hcu k _ (intsN_get hq))
          have hqs := HU.out q (List.mem_of_getElem? hq)
          obtain ⟨q8, r, hkk, hr, hr8, hbit⟩ := bit_split q
          have HT := Lib.hid (xK_take (y := a[i].toNat ^^^ b[i].toNat) (i := i) hq)
          have e1 : ((q : Int) / 8) = (q8 : Int) := by omega
          have e2 : ((q : Int) % 8) = (r : Int) := by omega
          have hxs := andnot_sh y r hy hr8
          by_cases hqi : q8 = i
          · have hN : Hid (xK (a[i].toNat ^^^ b[i].toNat) i (u.take (k + 1)) = clrX y r) := Lib.hid (by rw [HT.out, HX.out, if_pos (by omega), hr])
            have dq : ((q8 : Int) == (i : Int)) = true := by simp; omega
            have hyl := clrX_lt hy hr8
            clear hq hcu HAd hkk hr hbit HT hqi
            go_wp2
            go_roundw
            case rel => exact ⟨k + 1, clrX y r, by omega, by go_num, by first | rfl | rw [hxs], hyl, hN, hb⟩
            case measure => simp [intOf]; omega
          · have hN : Hid (xK (a[i].toNat ^^^ b[i].toNat) i (u.take (k + 1)) = y) := Lib.hid (by rw [HT.out, HX.out, if_neg (by omega)])
            have dq : ((q8 : Int) == (i : Int)) = false := by simp; omega
            clear hq hcu HAd hkk hr hbit HT hqi
            go_wp2
            go_roundw
            case rel => exact ⟨k + 1, y, by omega, by go_num, rfl, hy, hN, hb⟩
            case measure => simp [intOf]; omega
        · obtain rfl : k = u.length := by omega
          obtain rfl : y = 0 := by rw [← HX.out, List.take_length]; exact HZ0.out
          go_wp2
          go_roundw
          case rel => exact ⟨i + 1, by omega, by go_num, hb⟩
          case measure => simp [intOf]; omega
    · obtain rfl : i = b.size := by omega
      go_wp2
      go_ret
      exact ⟨rfl, hb⟩
/-- what the fills are, if there are any -/
structure FlOk (s : ByteArray) (u : List Nat) (c : Nat) (b : List Rw) (F : List Nat) : Prop where
  len : b.length ≤ u.length
  agr : Agr (bts s) u F
  crc : crcN F 65535 = c
  free : (freeU low b u.length).length = u.length - b.length
  cnt : (allS (bts s) u b (2 ^ (u.length - b.length))).length = 2 ^ (u.length - b.length)
  hd : (allS (bts s) u b (2 ^ (u.length - b.length)))[0]? = some F
  all : ∀ G ∈ allS (bts s) u b (2 ^ (u.length - b.length)), Agr (bts s) u G ∧ crcN G 65535 = c
  srt : (allS (bts s) u b (2 ^ (u.length - b.length))).Pairwise fun x y => ltL x y = true
  self : bts s ∈ allS (bts s) u b (2 ^ (u.length - b.length)) ↔ crcN (bts s) 65535 = c
theorem fills_none {s : ByteArray} {u : List Nat} {c : Nat} (hub : ∀ b ∈ u, b < 8 * s.size) (hur : u.Pairwise (· < ·)) (h64 : u.length ≤ 64) (hc : c < 65536) (h : redS (rowsOf s u c) = none) : crcN (bts s) 65535 ≠ c := by
  intro e
  have hub' : ∀ b ∈ u, b < 8 * (bts s).length := by rw [bts_len]; exact hub
  have hok := redS_ok h64 (rowsR_lt s.size u (restOf s u c)) h
  have hx : bts s = fillN (bts s) u (fun k => bitAt (bts s) (u.getD k 0)) := (Agr.self bts_lt).is bts_lt (hur.imp fun h => Nat.ne_of_lt h) hub' fun k _ => rfl
  have := (fill_sol hub' h64 hc _).2 (by rw [← hx]; exact e)
  rw [bts_len] at this
  exact hok _ this
theorem allS_cnt (l u : List Nat) (b : List Rw) : ∀ n, (allS l u b n).length = n
  | 0 => rfl
  | n + 1 => by
    have h := allS_cnt l u b n
    have hp := putK_le (allS l u b n) (fillOf l u low b (freeU low b u.length) n) (allS l u b n).length
    rw [allS, putS, List.length_append, List.length_cons, List.length_take, List.length_drop]; omega
theorem fills_some {s : ByteArray} {u : List Nat} {c : Nat} {b : List Rw} (hub : ∀ b ∈ u, b < 8 * s.size) (hur : u.Pairwise (· < ·)) (h64 : u.length ≤ 64) (hc : c < 65536) (h : redS (rowsOf s u c) = some b) : FlOk s u c b (fillN (bts s) u (comp low (leastR b u.length) 0).testBit) := by
  have hub' : ∀ b ∈ u, b < 8 * (bts s).length := by rw [bts_len]; exact hub
  have hnd : u.Nodup := hur.imp fun h => Nat.ne_of_lt h
  have hbo := red_both piv_top h64 (rowsR_lt s.size u (restOf s u c))
  have he2 : rowsR s.size u (restOf s u c) = rowsOf s u c := rfl
  rw [he2] at hbo
  rcases hbo with ⟨_, h2, _⟩ | ⟨a, b', h1, h2, hra, hrb, _, hua, hub2, hsa, hsb, hab, hal⟩
  · rw [h2] at h; cases h
  · rw [h2] at h
    obtain rfl : b' = b := Option.some.inj h
    have hsa' : ∀ x, Sol a x ↔ Sol (rowsR (bts s).length u (crcN (clrN (bts s) u) 65535 ^^^ c)) x := by rw [bts_len]; exact hsa
    have hsb' : ∀ x, Sol b' x ↔ Sol (rowsR (bts s).length u (crcN (clrN (bts s) u) 65535 ^^^ c)) x := by rw [bts_len]; exact hsb
    have hfl := free_len hrb (red_plt hrb hub2)
    have hfa := free_len hra (red_plt hra hua)
    have hlen := red_len_le hrb hub2
    have hfree : (freeU low b' u.length).length = u.length - b'.length := by omega
    have hfreea : (freeU top a u.length).length = u.length - b'.length := by omega
    have hm := fun G => mem_fills (F := G) bts_lt hnd hub' h64 hc hrb hub2 hsb' (freU low b' u.length)
    have hmem : ∀ G, G ∈ allS (bts s) u b' (2 ^ (u.length - b'.length)) ↔ Agr (bts s) u G ∧ crcN G 65535 = c := fun G => by
      rw [allS_mem, ← hfree]; exact hm G
    have has := all_same (l := bts s) bts_lt hur hub' h64 hc hra hrb hua hub2 hsa' hsb'
    rw [hfree, hfreea] at has
    have hls := least_same (l := bts s) h64 hra hrb hua hub2 (fun x => (hsa x).trans (hsb x).symm)
    have hhd : (allS (bts s) u b' (2 ^ (u.length - b'.length)))[0]? = some (fillN (bts s) u (comp low (leastR b' u.length) 0).testBit) := by
      rw [← has, ← hls]
      unfold allI
      rw [List.getElem?_map, List.getElem?_range (Nat.two_pow_pos _)]; rfl
    have hF := (hmem _).1 (List.mem_of_getElem? hhd)
    exact ⟨hlen, hF.1, hF.2, hfree, allS_cnt _ _ _ _, hhd, fun G hG => (hmem G).1 hG, allS_srt hnd hub' (by rw [hfree]; exact Nat.le_refl _), (hmem _).trans ⟨fun h => h.2, fun h => ⟨Agr.self bts_lt, h⟩⟩⟩
theorem unk_ok {s : ByteArray} {u : List Nat} {c : Nat} (h : DrU s u c) : unkOk s (intsN u) c = true := by
  unfold unkOk
  have h1 := h.s1
  have h2 := h.s2
  have h3 := h.ul
  have h4 := h.cl
  rw [inB_t (by omega), inB_t (by omega), decide_eq_true (by rw [intsN_len]; omega), show risesB 0 (8 * (s.size : Int) - 1) (intsN u) = true from rises_of (fun x hx => by obtain ⟨z, hz, rfl⟩ := List.mem_map.1 hx; have := h.ub z hz; omega) (List.pairwise_map.2 (h.ur.imp fun h => by omega)) (fun y hy => by cases hy)]; rfl
/-- what the walk needs of the fills -/
structure FlW (s : ByteArray) (c f : Nat) (F : List Nat) (u : List Nat) (L : List (List Nat)) : Prop where
  fl : f ≤ 20
  agr : Agr (bts s) u F
  crc : crcN F 65535 = c
  cnt : L.length = 2 ^ f
  hd : L[0]? = some F
  all : ∀ G ∈ L, Agr (bts s) u G ∧ crcN G 65535 = c
  srt : L.Pairwise fun x y => ltL x y = true
  self : bts s ∈ L ↔ crcN (bts s) 65535 = c
theorem ltL_ord {a b : List Nat} (ha : ∀ x ∈ a, x < 256) (hb : ∀ x ∈ b, x < 256) (h : ltL a b = true) : Op.bytesLess (strN b).toList (strN a).toList = false ∧ ((strN a).toList == (strN b).toList) = false ∧ Op.bytesLess (strN a).toList (strN b).toList = true := by
  rw [less_str hb ha, eq_str ha hb, less_str ha hb]
  refine ⟨?_, ?_, h⟩
  · cases h2 : ltL b a
    · rfl
    · have := ltL_trans h h2; rw [ltL_irrefl] at this; cases this
  · rw [beq_eq_false_iff_ne]; rintro rfl; rw [ltL_irrefl] at h; cases h
set_option maxRecDepth 20000 in
set_option maxHeartbeats 8000000 in
theorem walkFnFills (A : Option Addr) (n c : Nat) (w : World) (h1 : BytesIn w A n) (hm : n ≤ maxLen) :
    Calls Try.prog 12 #[.slice A n c] w fun e w' => e = .returned (.bool true) ∧ Below w.heap.size w w' := by
  have HL := a2long A none n c 0 0 w hm (Nat.zero_le _)
  cases hlong : (decide (3000 < n) || decide (3000 < 0))
  rotate_left
  · rw [hlong] at HL
    go_enter Try.func12, Try.ntmps12
    go_wp2_with (go_at_call 45; refine HL.mono ?_; rintro e w1 ⟨rfl, rfl⟩)
    go_ret
    exact ⟨rfl, Below.refl _ _⟩
  · rw [hlong] at HL
    simp only [Bool.or_eq_false_iff, decide_eq_false_iff_not] at hlong
    have hn1 : n ≤ 3000 := by omega
    clear hlong hm
    go_enter Try.func12, Try.ntmps12
    go_wp2_with (go_at_call 45; refine HL.mono ?_; rintro e w1 ⟨rfl, rfl⟩)
    refine (a2unknown_s A n c _ h1 (by omega)).mono ?_; rintro e w1 ⟨s, v, u, k, rfl, hD, hO, hb1⟩
    have hs1 := hD.s1
    have hs2 := hD.s2
    have hk := hD.cl
    have HU : Hid (∀ x ∈ u, x < 8 * s.size) := Lib.hid hD.ub
    have hul := hD.ul
    have hok := unk_ok hD
    have HO := Lib.hid hO
    have HIA := Lib.hid (fun W (hb : Below w1.heap.size w1 W) => intsAt_own (OwnL.below hO hb))
    have HFR := Lib.hid (fun W h => free_i s (intsN u) v k W h (by rw [intsN_len]; omega) (by omega))
    have HAL := Lib.hid (fun W h => all_i s (intsN u) v k 64 W h (by rw [intsN_len]; omega) (by omega))
    have HFI := Lib.hid (fun W h => fir_i s (intsN u) v k W h (by rw [intsN_len]; omega) (by omega))
    have HCR := Lib.hid (fun W => crcs_i s W (by omega))
    have HE : Hid (alE s (intsN u) (k : Int) 64 = alX s u 64 (redS (rowsOf s u k))) := Lib.hid (alE_yes (m := 64) hok (inB_t (by omega)))
    have HAG := Lib.hid (fun F W h hA => agr_l (strN F) s u v W h hD.ub hs2 (by omega) hA)
    have hcl := crcN_lt (bts s) 65535 (by omega)
    clear hO h1 HL
    cases hx : redS (rowsOf s u k)
    · have hr := fills_none hD.ub hD.ur (by omega) hD.cl hx
      have dr : ((crcN (bts s) 65535 : Int) == (k : Int)) = false := by rw [beq_eq_false_iff_ne]; omega
      rw [frV_none hok hx] at HFR
      rw [fiV_none hok hx] at HFI
      rw [HE.out, hx] at HAL
      generalize crcN (bts s) 65535 = cr at *
      clear hD hok hx hr HE HAG HU
      go_wp2_with (fail)
      refine (HFR.out _ (HIA.out _ (Below.refl _ _))).mono ?_; rintro e w2 ⟨rfl, hb2⟩
      go_wp2_with (fail)
      refine (HAL.out _ (HIA.out _ hb2)).mono ?_; rintro e w3 ⟨v3, rfl, o3, hb3⟩
      have b13 := hb2.trans (hb3.mono hb2.size)
      go_wp2_with (fail)
      refine (HFI.out _ (HIA.out _ b13)).mono ?_; rintro e w4 ⟨rfl, hb4⟩
      have b14 := b13.trans (hb4.mono b13.size)
      go_wp2_with (fail)
      refine (HCR.out _).mono ?_; rintro e w5 ⟨rfl, hW⟩; obtain rfl := hW.symm
      have B5 := hb1.trans (b14.mono hb1.size)
      go_wp2
      go_ret
      exact ⟨rfl, B5⟩
    · rename_i b
      have HF := fills_some hD.ub hD.ur (by omega) hD.cl hx
      rw [frV_some hok hx] at HFR
      rw [fiV_some hok hx] at HFI
      rw [HE.out, hx] at HAL
      generalize fillN (bts s) u (comp low (leastR b u.length) 0).testBit = F at *
      obtain ⟨f, hf⟩ : ∃ f : Nat, (u.length : Int) - (b.length : Int) = f := ⟨u.length - b.length, by have := HF.len; omega⟩
      rw [hf] at HFR
      have hf2 : u.length - b.length = f := by have := HF.len; omega
      have hfr := HF.free
      rw [hf2] at hfr
      have hFW : FlW s k f F u (allS (bts s) u b (2 ^ f)) := ⟨by omega, HF.agr, HF.crc, by have := HF.cnt; rwa [hf2] at this, by have := HF.hd; rwa [hf2] at this, by have := HF.all; rwa [hf2] at this, by have := HF.srt; rwa [hf2] at this, by have := HF.self; rwa [hf2] at this⟩
      have HAL2 : Hid (f ≤ 6 → ∀ W h, Calls Try.prog 39 #[.string s, v, .int .i64 k, .int .i64 64] W fun e w' => RStringS.retI W ((allS (bts s) u b (2 ^ f)).map strN) 0 e w') := Lib.hid (fun h6 W h => by
        have h0 := HAL.out W h
        rw [alX_yes (by rw [hfr]; exact Nat.le_trans (Nat.pow_le_pow_right (n := 2) (by omega) h6) (by decide)), hfr] at h0
        exact h0)
      have HAL3 : Hid (¬ f ≤ 6 → ∀ W h, Calls Try.prog 39 #[.string s, v, .int .i64 k, .int .i64 64] W fun e w' => RStringS.retI W [] 5 e w') := Lib.hid (fun h6 W h => by
        have h0 := HAL.out W h
        rw [alX_no (by rw [hfr]; intro h; have h2 := Nat.pow_lt_pow_right (a := 2) (by omega) (show 6 < f by omega); omega)] at h0
        exact h0)
      generalize allS (bts s) u b (2 ^ f) = L at *
      have hf20 := hFW.fl
      have HW := Lib.hid hFW
      clear hD hok hx HE HF hf hf2 hfr HAL hFW b
      have HCF := Lib.hid (fun G (h : Agr (bts s) u G ∧ crcN G 65535 = k) W => crcs_i (strN G) W (by rw [strN_size, h.1.len, bts_len]; omega))
      have HCF2 : Hid (∀ G, (h : Agr (bts s) u G ∧ crcN G 65535 = k) → ∀ W, Calls Try.prog 47 #[.string (strN G), .int .i64 65535] W fun e w' => e = .returned (.int .i64 k) ∧ w' = W) := Lib.hid (fun G h W => by have := HCF.out G h W; rwa [bts_strN h.1.lt, h.2] at this)
      have HAG2 : Hid (∀ G, (h : Agr (bts s) u G ∧ crcN G 65535 = k) → ∀ W h, Calls Try.prog 48 #[.string (strN G), .string s, v] W fun e w' => e = .returned (.bool true) ∧ Below W.heap.size W w') := Lib.hid (fun G h W hI => HAG.out G W hI (by rw [bts_strN h.1.lt]; exact h.1))
      generalize hcr : crcN (bts s) 65535 = cr at *
      have HCRK := Lib.hid hcr
      clear hcr HCF HAG
      have HF0 : Hid (Agr (bts s) u F ∧ crcN F 65535 = k) := Lib.hid ⟨HW.out.agr, HW.out.crc⟩
      go_wp2_with (fail)
      refine (HFR.out _ (HIA.out _ (Below.refl _ _))).mono ?_; rintro e w2 ⟨rfl, hb2⟩
      by_cases h6 : f ≤ 6
      · have HA := Lib.hid (HAL2.out h6)
        have d6 : decide ((6 : Int) < (f : Int)) = false := by rw [decide_eq_false_iff_not]; omega
        have d0 : decide ((f : Int) < 0) = false := by rw [decide_eq_false_iff_not]; omega
        have d64 : decide ((64 : Int) < (f : Int)) = false := by rw [decide_eq_false_iff_not]; omega
        clear HAL2 HAL3 HFR
        go_wp2_with (fail)
        refine (HA.out _ (HIA.out _ hb2)).mono ?_; rintro e w3 ⟨v3, rfl, o3, hb3⟩
        have b13 := hb2.trans (hb3.mono hb2.size)
        go_wp2_with (fail)
        refine (HFI.out _ (HIA.out _ b13)).mono ?_; rintro e w4 ⟨rfl, hb4⟩
        have b14 := b13.trans (hb4.mono b13.size)
        have o4 := OwnL.base (OwnL.below o3.1 hb4) (B' := w1.heap.size) hb2.size
        clear o3 hb3 hb4 hb2 b13 HA HFI
        go_wp2_with (fail)
        refine (HCR.out _).mono ?_; rintro e w5 ⟨rfl, hW⟩; obtain rfl := hW.symm
        go_wp2_with (fail)
        refine (HCF2.out F HF0.out _).mono ?_; rintro e w5 ⟨rfl, hW⟩; obtain rfl := hW.symm
        go_wp2_with (fail)
        refine (HAG2.out F HF0.out _ (HIA.out _ b14)).mono ?_; rintro e w6 ⟨rfl, hb6⟩
        have b16 := b14.trans (hb6.mono b14.size)
        have o6 := OwnL.below o4 hb6
        have hN0 : 1 ≤ L.length := by have := HW.out.cnt; have := Nat.two_pow_pos f; omega
        have hN6 : L.length ≤ 64 := by rw [HW.out.cnt]; exact Nat.le_trans (Nat.pow_le_pow_right (n := 2) (by omega) h6) (by decide)
        obtain ⟨A3, c3, rfl, hA3⟩ := OwnL.shape o6
        obtain ⟨g3, rfl, hg3, hg3w⟩ := hA3.resolve_left (by intro h0; have := congrArg List.length h0; rw [List.length_map] at this; simp only [List.length_nil] at this; omega)
        have HC3 : Hid (∀ (j : Nat) (G : List Nat), L[j]? = some G → w6.cell? ⟨g3, j, none⟩ = some (.string (strN G))) := Lib.hid (fun j G hj => StringL.at_ o6 rfl (by rw [List.getElem?_map, hj]; rfl))
        rw [List.length_map]
        have p0 := HC3.out 0 F HW.out.hd
        have HN := Lib.hid HW.out.cnt
        have hw1 := wrap_pow_i f (by omega)
        have hw2 : wrap64 (2 ^ f) = ((2 ^ f : Nat) : Int) := by unfold wrap64; rw [← IntKind.wrap_i64]; exact hw1
        rw [← HW.out.cnt] at hw1 hw2
        have hw3 : IntKind.i64.wrap (2 ^ min f 64) = (L.length : Int) := by rw [Nat.min_eq_left (by omega)]; exact hw1
        have hw4 : wrap64 (2 ^ min f 64) = (L.length : Int) := by rw [Nat.min_eq_left (by omega)]; exact hw2
        generalize hNL : L.length = N at *
        have HNL := Lib.hid hNL
        clear hNL
        clear o4 o6 hA3 b14 hb6
        go_upto_region 14 with (fail)
        clear hw3 hw4
        rcases (show f = 0 ∨ f = 1 ∨ f = 2 ∨ f = 3 ∨ f = 4 ∨ f = 5 ∨ f = 6 by omega) with rfl | rfl | rfl | rfl | rfl | rfl | rfl
        · obtain rfl : N = 1 := HN.out
          have HNL2 := HNL.out
          go_upto_region 16 with (fail)
          clear p0 hw1 hw2 HN
          go_wp2
          go_loopw [14, 13] (fun i ff wr => ∃ (k2 : Nat) (fb : Bool), k2 ≤ L.length ∧ i = .int .i64 k2 ∧ ff = .bool fb ∧ Hid (fb = decide (bts s ∈ L.take k2)) ∧ Below w6.heap.size w6 wr) (fun i _ _ => L.length - (intOf i).toNat)
          case atStart => exact ⟨0, false, by omega, rfl, rfl, Lib.hid (by simp), Below.refl _ _⟩
          case round =>
            obtain ⟨k2, fb, hk2, rfl, rfl, HFd, hb⟩ := hrel
            by_cases hlt : k2 < L.length
            · obtain ⟨G, hG⟩ : ∃ G, L[k2]? = some G := ⟨L[k2], List.getElem?_eq_getElem hlt⟩
              have HG : Hid (Agr (bts s) u G ∧ crcN G 65535 = k) := Lib.hid (HW.out.all G (List.mem_of_getElem? hG))
              have PG := Lib.hid (HC3.out k2 G hG)
              have RB : ∀ x : Wb wr, x.1.cell? ⟨g3, k2, none⟩ = some (.string (strN G)) := fun x => Wb.cell ((hb.cell (p := ⟨g3, k2, none⟩) hg3w).trans PG.out) x
              have HC : Hid (∀ x : Wb wr, Calls Try.prog 47 #[.string (strN G), .int .i64 65535] x.1 fun e w' => e = .returned (.int .i64 k) ∧ Below x.1.heap.size x.1 w') := Lib.hid (fun x => (HCF2.out G HG.out x.1).mono fun e w' h => ⟨h.1, by rw [h.2]; exact Below.refl _ _⟩)
              have HAx : Hid (∀ x : Wb wr, Calls Try.prog 48 #[.string (strN G), .string s, v] x.1 fun e w' => e = .returned (.bool true) ∧ Below x.1.heap.size x.1 w') := Lib.hid (fun x => HAG2.out G HG.out x.1 (HIA.out _ (b16.trans ((hb.trans (x.2.mono hb.size)).mono b16.size))))
              have HT : Hid (decide (bts s ∈ L.take (k2 + 1)) = (decide (bts s ∈ L.take k2) || decide (bts s = G))) := Lib.hid (by rw [List.take_add_one, hG]; simp [Option.toList])
              have HGS : Hid (((strN G).toList == s.toList) = decide (bts s = G)) := Lib.hid (by have := eq_str (a := G) (b := bts s) HG.out.1.lt bts_lt; rw [strN_bts] at this; rw [this, Bool.eq_iff_iff, beq_iff_eq, decide_eq_true_eq]; exact eq_comm)
              have dlt : decide ((k2 : Int) < (L.length : Int)) = true := by rw [decide_eq_true_eq]; omega
              rw [HNL2] at dlt
              by_cases hk0 : k2 = 0
              · have dk : decide ((0 : Int) < (k2 : Int)) = false := by rw [decide_eq_false_iff_not]; omega
                have dk2 : decide (0 < k2) = false := by rw [decide_eq_false_iff_not]; omega
                have RB0 : True := trivial
                clear hk0
                go_upto_region 20 with (fail)
                refine wp_region_wb (by kernel_rfl) (by kernel_rfl) ?_
                repeat (go_big_quiet_step (first | (go_at_call 47; exact Wb.calls (HC.out _)) | (go_at_call 48; exact Wb.calls (HAx.out _))))
                refine wpQuiet_nil ?_; intro wq hw'; obtain ⟨⟨wz, hbz⟩, hw''⟩ := hw'; subst hw''
                have hb6z : Below w6.heap.size w6 wq := hb.trans (hbz.mono hb.size)
                have p2 : wq.cell? ⟨g3, k2, none⟩ = some (.string (strN G)) := (hb6z.cell (p := ⟨g3, k2, none⟩) hg3w).trans PG.out
                clear RB RB0 hbz hb
                cases fb
                · cases hgs : ((strN G).toList == s.toList)
                  · have HN2 : Hid (false = decide (bts s ∈ L.take (k2 + 1))) := Lib.hid (by rw [HT.out, ← HFd.out, ← HGS.out, hgs]; rfl)
                    go_wp2
                    go_roundw
                    case rel => exact ⟨k2 + 1, false, by omega, by go_num, rfl, HN2, hb6z⟩
                    case measure => simp [intOf]; omega
                  · have HN2 : Hid (true = decide (bts s ∈ L.take (k2 + 1))) := Lib.hid (by rw [HT.out, ← HFd.out, ← HGS.out, hgs]; rfl)
                    go_wp2
                    go_roundw
                    case rel => exact ⟨k2 + 1, true, by omega, by go_num, rfl, HN2, hb6z⟩
                    case measure => simp [intOf]; omega
                · have HN2 : Hid (true = decide (bts s ∈ L.take (k2 + 1))) := Lib.hid (by rw [HT.out, ← HFd.out]; rfl)
                  go_wp2
                  go_roundw
                  case rel => exact ⟨k2 + 1, true, by omega, by go_num, rfl, HN2, hb6z⟩
                  case measure => simp [intOf]; omega
              · exfalso; omega
            · obtain rfl : k2 = L.length := by omega
              have HE2 : Hid (fb = ((cr : Int) == (k : Int))) := Lib.hid (by
                rw [HFd.out, List.take_length, Bool.eq_iff_iff, decide_eq_true_eq, beq_iff_eq, HW.out.self, HCRK.out]
                omega)
              cases fb
              · have hq : ((cr : Int) == (k : Int)) = false := HE2.out.symm
                go_wp2
                go_ret
                exact ⟨rfl, hb1.trans ((b16.trans (hb.mono b16.size)).mono hb1.size)⟩
              · have hq : ((cr : Int) == (k : Int)) = true := HE2.out.symm
                go_wp2
                go_ret
                exact ⟨rfl, hb1.trans ((b16.trans (hb.mono b16.size)).mono hb1.size)⟩
        · obtain rfl : N = 2 := HN.out
          have HNL2 := HNL.out
          go_upto_region 16 with (fail)
          clear p0 hw1 hw2 HN
          go_wp2
          go_loopw [14, 13] (fun i ff wr => ∃ (k2 : Nat) (fb : Bool), k2 ≤ L.length ∧ i = .int .i64 k2 ∧ ff = .bool fb ∧ Hid (fb = decide (bts s ∈ L.take k2)) ∧ Below w6.heap.size w6 wr) (fun i _ _ => L.length - (intOf i).toNat)
          case atStart => exact ⟨0, false, by omega, rfl, rfl, Lib.hid (by simp), Below.refl _ _⟩
          case round =>
            obtain ⟨k2, fb, hk2, rfl, rfl, HFd, hb⟩ := hrel
            by_cases hlt : k2 < L.length
            · obtain ⟨G, hG⟩ : ∃ G, L[k2]? = some G := ⟨L[k2], List.getElem?_eq_getElem hlt⟩
              have HG : Hid (Agr (bts s) u G ∧ crcN G 65535 = k) := Lib.hid (HW.out.all G (List.mem_of_getElem? hG))
              have PG := Lib.hid (HC3.out k2 G hG)
              have RB : ∀ x : Wb wr, x.1.cell? ⟨g3, k2, none⟩ = some (.string (strN G)) := fun x => Wb.cell ((hb.cell (p := ⟨g3, k2, none⟩) hg3w).trans PG.out) x
              have HC : Hid (∀ x : Wb wr, Calls Try.prog 47 #[.string (strN G), .int .i64 65535] x.1 fun e w' => e = .returned (.int .i64 k) ∧ Below x.1.heap.size x.1 w') := Lib.hid (fun x => (HCF2.out G HG.out x.1).mono fun e w' h => ⟨h.1, by rw [h.2]; exact Below.refl _ _⟩)
              have HAx : Hid (∀ x : Wb wr, Calls Try.prog 48 #[.string (strN G), .string s, v] x.1 fun e w' => e = .returned (.bool true) ∧ Below x.1.heap.size x.1 w') := Lib.hid (fun x => HAG2.out G HG.out x.1 (HIA.out _ (b16.trans ((hb.trans (x.2.mono hb.size)).mono b16.size))))
              have HT : Hid (decide (bts s ∈ L.take (k2 + 1)) = (decide (bts s ∈ L.take k2) || decide (bts s = G))) := Lib.hid (by rw [List.take_add_one, hG]; simp [Option.toList])
              have HGS : Hid (((strN G).toList == s.toList) = decide (bts s = G)) := Lib.hid (by have := eq_str (a := G) (b := bts s) HG.out.1.lt bts_lt; rw [strN_bts] at this; rw [this, Bool.eq_iff_iff, beq_iff_eq, decide_eq_true_eq]; exact eq_comm)
              have dlt : decide ((k2 : Int) < (L.length : Int)) = true := by rw [decide_eq_true_eq]; omega
              rw [HNL2] at dlt
              by_cases hk0 : k2 = 0
              · have dk : decide ((0 : Int) < (k2 : Int)) = false := by rw [decide_eq_false_iff_not]; omega
                have dk2 : decide (0 < k2) = false := by rw [decide_eq_false_iff_not]; omega
                have RB0 : True := trivial
                clear hk0
                go_upto_region 20 with (fail)
                refine wp_region_wb (by kernel_rfl) (by kernel_rfl) ?_
                repeat (go_big_quiet_step (first | (go_at_call 47; exact Wb.calls (HC.out _)) | (go_at_call 48; exact Wb.calls (HAx.out _))))
                refine wpQuiet_nil ?_; intro wq hw'; obtain ⟨⟨wz, hbz⟩, hw''⟩ := hw'; subst hw''
                have hb6z : Below w6.heap.size w6 wq := hb.trans (hbz.mono hb.size)
                have p2 : wq.cell? ⟨g3, k2, none⟩ = some (.string (strN G)) := (hb6z.cell (p := ⟨g3, k2, none⟩) hg3w).trans PG.out
                clear RB RB0 hbz hb
                cases fb
                · cases hgs : ((strN G).toList == s.toList)
                  · have HN2 : Hid (false = decide (bts s ∈ L.take (k2 + 1))) := Lib.hid (by rw [HT.out, ← HFd.out, ← HGS.out, hgs]; rfl)
                    go_wp2
                    go_roundw
                    case rel => exact ⟨k2 + 1, false, by omega, by go_num, rfl, HN2, hb6z⟩
                    case measure => simp [intOf]; omega
                  · have HN2 : Hid (true = decide (bts s ∈ L.take (k2 + 1))) := Lib.hid (by rw [HT.out, ← HFd.out, ← HGS.out, hgs]; rfl)
                    go_wp2
                    go_roundw
                    case rel => exact ⟨k2 + 1, true, by omega, by go_num, rfl, HN2, hb6z⟩
                    case measure => simp [intOf]; omega
                · have HN2 : Hid (true = decide (bts s ∈ L.take (k2 + 1))) := Lib.hid (by rw [HT.out, ← HFd.out]; rfl)
                  go_wp2
                  go_roundw
                  case rel => exact ⟨k2 + 1, true, by omega, by go_num, rfl, HN2, hb6z⟩
                  case measure => simp [intOf]; omega
              · obtain ⟨k0, hk0e⟩ : ∃ k0 : Nat, (k2 : Int) - 1 = k0 := ⟨k2 - 1, by omega⟩
                obtain ⟨G0, hG0⟩ : ∃ G0, L[k0]? = some G0 := ⟨L[k0]'(by omega), List.getElem?_eq_getElem (by omega)⟩
                have PG0 := Lib.hid (HC3.out k0 G0 hG0)
                have RB0 : ∀ x : Wb wr, x.1.cell? ⟨g3, k0, none⟩ = some (.string (strN G0)) := fun x => Wb.cell ((hb.cell (p := ⟨g3, k0, none⟩) hg3w).trans PG0.out) x
                have hlt0 := (List.pairwise_iff_getElem.1 HW.out.srt) k0 k2 (by omega) hlt (by omega)
                rw [(List.getElem?_eq_some_iff.1 hG0).2, (List.getElem?_eq_some_iff.1 hG).2] at hlt0
                obtain ⟨y1, y2, y3⟩ := ltL_ord (HW.out.all G0 (List.mem_of_getElem? hG0)).1.lt HG.out.1.lt hlt0
                have dk : decide ((0 : Int) < (k2 : Int)) = true := by rw [decide_eq_true_eq]; omega
                have dk2 : decide (0 < k2) = true := by rw [decide_eq_true_eq]; omega
                have dk3 : 0 < k2 := by omega
                clear hG0 hlt0 hG
                go_upto_region 20 with (fail)
                refine wp_region_wb (by kernel_rfl) (by kernel_rfl) ?_
                repeat (go_big_quiet_step (first | (go_at_call 47; exact Wb.calls (HC.out _)) | (go_at_call 48; exact Wb.calls (HAx.out _))))
                refine wpQuiet_nil ?_; intro wq hw'; obtain ⟨⟨wz, hbz⟩, hw''⟩ := hw'; subst hw''
                have hb6z : Below w6.heap.size w6 wq := hb.trans (hbz.mono hb.size)
                have p2 : wq.cell? ⟨g3, k2, none⟩ = some (.string (strN G)) := (hb6z.cell (p := ⟨g3, k2, none⟩) hg3w).trans PG.out
                clear RB RB0 hbz hb
                cases fb
                · cases hgs : ((strN G).toList == s.toList)
                  · have HN2 : Hid (false = decide (bts s ∈ L.take (k2 + 1))) := Lib.hid (by rw [HT.out, ← HFd.out, ← HGS.out, hgs]; rfl)
                    go_wp2
                    go_roundw
                    case rel => exact ⟨k2 + 1, false, by omega, by go_num, rfl, HN2, hb6z⟩
                    case measure => simp [intOf]; omega
                  · have HN2 : Hid (true = decide (bts s ∈ L.take (k2 + 1))) := Lib.hid (by rw [HT.out, ← HFd.out, ← HGS.out, hgs]; rfl)
                    go_wp2
                    go_roundw
                    case rel => exact ⟨k2 + 1, true, by omega, by go_num, rfl, HN2, hb6z⟩
                    case measure => simp [intOf]; omega
                · have HN2 : Hid (true = decide (bts s ∈ L.take (k2 + 1))) := Lib.hid (by rw [HT.out, ← HFd.out]; rfl)
                  go_wp2
                  go_roundw
                  case rel => exact ⟨k2 + 1, true, by omega, by go_num, rfl, HN2, hb6z⟩
                  case measure => simp [intOf]; omega
            · obtain rfl : k2 = L.length := by omega
              have HE2 : Hid (fb = ((cr : Int) == (k : Int))) := Lib.hid (by
                rw [HFd.out, List.take_length, Bool.eq_iff_iff, decide_eq_true_eq, beq_iff_eq, HW.out.self, HCRK.out]
                omega)
              cases fb
              · have hq : ((cr : Int) == (k : Int)) = false := HE2.out.symm
                go_wp2
                go_ret
                exact ⟨rfl, hb1.trans ((b16.trans (hb.mono b16.size)).mono hb1.size)⟩
              · have hq : ((cr : Int) == (k : Int)) = true := HE2.out.symm
                go_wp2
                go_ret
                exact ⟨rfl, hb1.trans ((b16.trans (hb.mono b16.size)).mono hb1.size)⟩
        · obtain rfl : N = 4 := HN.out
          have HNL2 := HNL.out
          go_upto_region 16 with (fail)
          clear p0 hw1 hw2 HN
          go_wp2
          go_loopw [14, 13] (fun i ff wr => ∃ (k2 : Nat) (fb : Bool), k2 ≤ L.length ∧ i = .int .i64 k2 ∧ ff = .bool fb ∧ Hid (fb = decide (bts s ∈ L.take k2)) ∧ Below w6.heap.size w6 wr) (fun i _ _ => L.length - (intOf i).toNat)
          case atStart => exact ⟨0, false, by omega, rfl, rfl, Lib.hid (by simp), Below.refl _ _⟩
          case round =>
            obtain ⟨k2, fb, hk2, rfl, rfl, HFd, hb⟩ := hrel
            by_cases hlt : k2 < L.length
            · obtain ⟨G, hG⟩ : ∃ G, L[k2]? = some G := ⟨L[k2], List.getElem?_eq_getElem hlt⟩
              have HG : Hid (Agr (bts s) u G ∧ crcN G 65535 = k) := Lib.hid (HW.out.all G (List.mem_of_getElem? hG))
              have PG := Lib.hid (HC3.out k2 G hG)
              have RB : ∀ x : Wb wr, x.1.cell? ⟨g3, k2, none⟩ = some (.string (strN G)) := fun x => Wb.cell ((hb.cell (p := ⟨g3, k2, none⟩) hg3w).trans PG.out) x
              have HC : Hid (∀ x : Wb wr, Calls Try.prog 47 #[.string (strN G), .int .i64 65535] x.1 fun e w' => e = .returned (.int .i64 k) ∧ Below x.1.heap.size x.1 w') := Lib.hid (fun x => (HCF2.out G HG.out x.1).mono fun e w' h => ⟨h.1, by rw [h.2]; exact Below.refl _ _⟩)
              have HAx : Hid (∀ x : Wb wr, Calls Try.prog 48 #[.string (strN G), .string s, v] x.1 fun e w' => e = .returned (.bool true) ∧ Below x.1.heap.size x.1 w') := Lib.hid (fun x => HAG2.out G HG.out x.1 (HIA.out _ (b16.trans ((hb.trans (x.2.mono hb.size)).mono b16.size))))
              have HT : Hid (decide (bts s ∈ L.take (k2 + 1)) = (decide (bts s ∈ L.take k2) || decide (bts s = G))) := Lib.hid (by rw [List.take_add_one, hG]; simp [Option.toList])
              have HGS : Hid (((strN G).toList == s.toList) = decide (bts s = G)) := Lib.hid (by have := eq_str (a := G) (b := bts s) HG.out.1.lt bts_lt; rw [strN_bts] at this; rw [this, Bool.eq_iff_iff, beq_iff_eq, decide_eq_true_eq]; exact eq_comm)
              have dlt : decide ((k2 : Int) < (L.length : Int)) = true := by rw [decide_eq_true_eq]; omega
              rw [HNL2] at dlt
              by_cases hk0 : k2 = 0
              · have dk : decide ((0 : Int) < (k2 : Int)) = false := by rw [decide_eq_false_iff_not]; omega
                have dk2 : decide (0 < k2) = false := by rw [decide_eq_false_iff_not]; omega
                have RB0 : True := trivial
                clear hk0
                go_upto_region 20 with (fail)
                refine wp_region_wb (by kernel_rfl) (by kernel_rfl) ?_
                repeat (go_big_quiet_step (first | (go_at_call 47; exact Wb.calls (HC.out _)) | (go_at_call 48; exact Wb.calls (HAx.out _))))
                refine wpQuiet_nil ?_; intro wq hw'; obtain ⟨⟨wz, hbz⟩, hw''⟩ := hw'; subst hw''
                have hb6z : Below w6.heap.size w6 wq := hb.trans (hbz.mono hb.size)
                have p2 : wq.cell? ⟨g3, k2, none⟩ = some (.string (strN G)) := (hb6z.cell (p := ⟨g3, k2, none⟩) hg3w).trans PG.out
                clear RB RB0 hbz hb
                cases fb
                · cases hgs : ((strN G).toList == s.toList)
                  · have HN2 : Hid (false = decide (bts s ∈ L.take (k2 + 1))) := Lib.hid (by rw [HT.out, ← HFd.out, ← HGS.out, hgs]; rfl)
                    go_wp2
                    go_roundw
                    case rel => exact ⟨k2 + 1, false, by omega, by go_num, rfl, HN2, hb6z⟩
                    case measure => simp [intOf]; omega
                  · have HN2 : Hid (true = decide (bts s ∈ L.take (k2 + 1))) := Lib.hid (by rw [HT.out, ← HFd.out, ← HGS.out, hgs]; rfl)
                    go_wp2
                    go_roundw
                    case rel => exact ⟨k2 + 1, true, by omega, by go_num, rfl, HN2, hb6z⟩
                    case measure => simp [intOf]; omega
                · have HN2 : Hid (true = decide (bts s ∈ L.take (k2 + 1))) := Lib.hid (by rw [HT.out, ← HFd.out]; rfl)
                  go_wp2
                  go_roundw
                  case rel => exact ⟨k2 + 1, true, by omega, by go_num, rfl, HN2, hb6z⟩
                  case measure => simp [intOf]; omega
              · obtain ⟨k0, hk0e⟩ : ∃ k0 : Nat, (k2 : Int) - 1 = k0 := ⟨k2 - 1, by omega⟩
                obtain ⟨G0, hG0⟩ : ∃ G0, L[k0]? = some G0 := ⟨L[k0]'(by omega), List.getElem?_eq_getElem (by omega)⟩
                have PG0 := Lib.hid (HC3.out k0 G0 hG0)
                have RB0 : ∀ x : Wb wr, x.1.cell? ⟨g3, k0, none⟩ = some (.string (strN G0)) := fun x => Wb.cell ((hb.cell (p := ⟨g3, k0, none⟩) hg3w).trans PG0.out) x
                have hlt0 := (List.pairwise_iff_getElem.1 HW.out.srt) k0 k2 (by omega) hlt (by omega)
                rw [(List.getElem?_eq_some_iff.1 hG0).2, (List.getElem?_eq_some_iff.1 hG).2] at hlt0
                obtain ⟨y1, y2, y3⟩ := ltL_ord (HW.out.all G0 (List.mem_of_getElem? hG0)).1.lt HG.out.1.lt hlt0
                have dk : decide ((0 : Int) < (k2 : Int)) = true := by rw [decide_eq_true_eq]; omega
                have dk2 : decide (0 < k2) = true := by rw [decide_eq_true_eq]; omega
                have dk3 : 0 < k2 := by omega
                clear hG0 hlt0 hG
                go_upto_region 20 with (fail)
                refine wp_region_wb (by kernel_rfl) (by kernel_rfl) ?_
                repeat (go_big_quiet_step (first | (go_at_call 47; exact Wb.calls (HC.out _)) | (go_at_call 48; exact Wb.calls (HAx.out _))))
                refine wpQuiet_nil ?_; intro wq hw'; obtain ⟨⟨wz, hbz⟩, hw''⟩ := hw'; subst hw''
                have hb6z : Below w6.heap.size w6 wq := hb.trans (hbz.mono hb.size)
                have p2 : wq.cell? ⟨g3, k2, none⟩ = some (.string (strN G)) := (hb6z.cell (p := ⟨g3, k2, none⟩) hg3w).trans PG.out
                clear RB RB0 hbz hb
                cases fb
                · cases hgs : ((strN G).toList == s.toList)
                  · have HN2 : Hid (false = decide (bts s ∈ L.take (k2 + 1))) := Lib.hid (by rw [HT.out, ← HFd.out, ← HGS.out, hgs]; rfl)
                    go_wp2
                    go_roundw
                    case rel => exact ⟨k2 + 1, false, by omega, by go_num, rfl, HN2, hb6z⟩
                    case measure => simp [intOf]; omega
                  · have HN2 : Hid (true = decide (bts s ∈ L.take (k2 + 1))) := Lib.hid (by rw [HT.out, ← HFd.out, ← HGS.out, hgs]; rfl)
                    go_wp2
                    go_roundw
                    case rel => exact ⟨k2 + 1, true, by omega, by go_num, rfl, HN2, hb6z⟩
                    case measure => simp [intOf]; omega
                · have HN2 : Hid (true = decide (bts s ∈ L.take (k2 + 1))) := Lib.hid (by rw [HT.out, ← HFd.out]; rfl)
                  go_wp2
                  go_roundw
                  case rel => exact ⟨k2 + 1, true, by omega, by go_num, rfl, HN2, hb6z⟩
                  case measure => simp [intOf]; omega
            · obtain rfl : k2 = L.length := by omega
              have HE2 : Hid (fb = ((cr : Int) == (k : Int))) := Lib.hid (by
                rw [HFd.out, List.take_length, Bool.eq_iff_iff, decide_eq_true_eq, beq_iff_eq, HW.out.self, HCRK.out]
                omega)
              cases fb
              · have hq : ((cr : Int) == (k : Int)) = false := HE2.out.symm
                go_wp2
                go_ret
                exact ⟨rfl, hb1.trans ((b16.trans (hb.mono b16.size)).mono hb1.size)⟩
              · have hq : ((cr : Int) == (k : Int)) = true := HE2.out.symm
                go_wp2
                go_ret
                exact ⟨rfl, hb1.trans ((b16.trans (hb.mono b16.size)).mono hb1.size)⟩
        · obtain rfl : N = 8 := HN.out
          have HNL2 := HNL.out
          go_upto_region 16 with (fail)
          clear p0 hw1 hw2 HN
          go_wp2
          go_loopw [14, 13] (fun i ff wr => ∃ (k2 : Nat) (fb : Bool), k2 ≤ L.length ∧ i = .int .i64 k2 ∧ ff = .bool fb ∧ Hid (fb = decide (bts s ∈ L.take k2)) ∧ Below w6.heap.size w6 wr) (fun i _ _ => L.length - (intOf i).toNat)
          case atStart => exact ⟨0, false, by omega, rfl, rfl, Lib.hid (by simp), Below.refl _ _⟩
          case round =>
            obtain ⟨k2, fb, hk2, rfl, rfl, HFd, hb⟩ := hrel
            by_cases hlt : k2 < L.length
            · obtain ⟨G, hG⟩ : ∃ G, L[k2]? = some G := ⟨L[k2], List.getElem?_eq_getElem hlt⟩
              have HG : Hid (Agr (bts s) u G ∧ crcN G 65535 = k) := Lib.hid (HW.out.all G (List.mem_of_getElem? hG))
              have PG := Lib.hid (HC3.out k2 G hG)
              have RB : ∀ x : Wb wr, x.1.cell? ⟨g3, k2, none⟩ = some (.string (strN G)) := fun x => Wb.cell ((hb.cell (p := ⟨g3, k2, none⟩) hg3w).trans PG.out) x
              have HC : Hid (∀ x : Wb wr, Calls Try.prog 47 #[.string (strN G), .int .i64 65535] x.1 fun e w' => e = .returned (.int .i64 k) ∧ Below x.1.heap.size x.1 w') := Lib.hid (fun x => (HCF2.out G HG.out x.1).mono fun e w' h => ⟨h.1, by rw [h.2]; exact Below.refl _ _⟩)
              have HAx : Hid (∀ x : Wb wr, Calls Try.prog 48 #[.string (strN G), .string s, v] x.1 fun e w' => e = .returned (.bool true) ∧ Below x.1.heap.size x.1 w') := Lib.hid (fun x => HAG2.out G HG.out x.1 (HIA.out _ (b16.trans ((hb.trans (x.2.mono hb.size)).mono b16.size))))
              have HT : Hid (decide (bts s ∈ L.take (k2 + 1)) = (decide (bts s ∈ L.take k2) || decide (bts s = G))) := Lib.hid (by rw [List.take_add_one, hG]; simp [Option.toList])
              have HGS : Hid (((strN G).toList == s.toList) = decide (bts s = G)) := Lib.hid (by have := eq_str (a := G) (b := bts s) HG.out.1.lt bts_lt; rw [strN_bts] at this; rw [this, Bool.eq_iff_iff, beq_iff_eq, decide_eq_true_eq]; exact eq_comm)
              have dlt : decide ((k2 : Int) < (L.length : Int)) = true := by rw [decide_eq_true_eq]; omega
              rw [HNL2] at dlt
              by_cases hk0 : k2 = 0
              · have dk : decide ((0 : Int) < (k2 : Int)) = false := by rw [decide_eq_false_iff_not]; omega
                have dk2 : decide (0 < k2) = false := by rw [decide_eq_false_iff_not]; omega
                have RB0 : True := trivial
                clear hk0
                go_upto_region 20 with (fail)
                refine wp_region_wb (by kernel_rfl) (by kernel_rfl) ?_
                repeat (go_big_quiet_step (first | (go_at_call 47; exact Wb.calls (HC.out _)) | (go_at_call 48; exact Wb.calls (HAx.out _))))
                refine wpQuiet_nil ?_; intro wq hw'; obtain ⟨⟨wz, hbz⟩, hw''⟩ := hw'; subst hw''
                have hb6z : Below w6.heap.size w6 wq := hb.trans (hbz.mono hb.size)
                have p2 : wq.cell? ⟨g3, k2, none⟩ = some (.string (strN G)) := (hb6z.cell (p := ⟨g3, k2, none⟩) hg3w).trans PG.out
                clear RB RB0 hbz hb
                cases fb
                · cases hgs : ((strN G).toList == s.toList)
                  · have HN2 : Hid (false = decide (bts s ∈ L.take (k2 + 1))) := Lib.hid (by rw [HT.out, ← HFd.out, ← HGS.out, hgs]; rfl)
                    go_wp2
                    go_roundw
                    case rel => exact ⟨k2 + 1, false, by omega, by go_num, rfl, HN2, hb6z⟩
                    case measure => simp [intOf]; omega
                  · have HN2 : Hid (true = decide (bts s ∈ L.take (k2 + 1))) := Lib.hid (by rw [HT.out, ← HFd.out, ← HGS.out, hgs]; rfl)
                    go_wp2
                    go_roundw
                    case rel => exact ⟨k2 + 1, true, by omega, by go_num, rfl, HN2, hb6z⟩
                    case measure => simp [intOf]; omega
                · have HN2 : Hid (true = decide (bts s ∈ L.take (k2 + 1))) := Lib.hid (by rw [HT.out, ← HFd.out]; rfl)
                  go_wp2
                  go_roundw
                  case rel => exact ⟨k2 + 1, true, by omega, by go_num, rfl, HN2, hb6z⟩
                  case measure => simp [intOf]; omega
              · obtain ⟨k0, hk0e⟩ : ∃ k0 : Nat, (k2 : Int) - 1 = k0 := ⟨k2 - 1, by omega⟩
                obtain ⟨G0, hG0⟩ : ∃ G0, L[k0]? = some G0 := ⟨L[k0]'(by omega), List.getElem?_eq_getElem (by omega)⟩
                have PG0 := Lib.hid (HC3.out k0 G0 hG0)
                have RB0 : ∀ x : Wb wr, x.1.cell? ⟨g3, k0, none⟩ = some (.string (strN G0)) := fun x => Wb.cell ((hb.cell (p := ⟨g3, k0, none⟩) hg3w).trans PG0.out) x
                have hlt0 := (List.pairwise_iff_getElem.1 HW.out.srt) k0 k2 (by omega) hlt (by omega)
                rw [(List.getElem?_eq_some_iff.1 hG0).2, (List.getElem?_eq_some_iff.1 hG).2] at hlt0
                obtain ⟨y1, y2, y3⟩ := ltL_ord (HW.out.all G0 (List.mem_of_getElem? hG0)).1.lt HG.out.1.lt hlt0
                have dk : decide ((0 : Int) < (k2 : Int)) = true := by rw [decide_eq_true_eq]; omega
                have dk2 : decide (0 < k2) = true := by rw [decide_eq_true_eq]; omega
                have dk3 : 0 < k2 := by omega
                clear hG0 hlt0 hG
                go_upto_region 20 with (fail)
                refine wp_region_wb (by kernel_rfl) (by kernel_rfl) ?_
                repeat (go_big_quiet_step (first | (go_at_call 47; exact Wb.calls (HC.out _)) | (go_at_call 48; exact Wb.calls (HAx.out _))))
                refine wpQuiet_nil ?_; intro wq hw'; obtain ⟨⟨wz, hbz⟩, hw''⟩ := hw'; subst hw''
                have hb6z : Below w6.heap.size w6 wq := hb.trans (hbz.mono hb.size)
                have p2 : wq.cell? ⟨g3, k2, none⟩ = some (.string (strN G)) := (hb6z.cell (p := ⟨g3, k2, none⟩) hg3w).trans PG.out
                clear RB RB0 hbz hb
                cases fb
                · cases hgs : ((strN G).toList == s.toList)
                  · have HN2 : Hid (false = decide (bts s ∈ L.take (k2 + 1))) := Lib.hid (by rw [HT.out, ← HFd.out, ← HGS.out, hgs]; rfl)
                    go_wp2
                    go_roundw
                    case rel => exact ⟨k2 + 1, false, by omega, by go_num, rfl, HN2, hb6z⟩
                    case measure => simp [intOf]; omega
                  · have HN2 : Hid (true = decide (bts s ∈ L.take (k2 + 1))) := Lib.hid (by rw [HT.out, ← HFd.out, ← HGS.out, hgs]; rfl)
                    go_wp2
                    go_roundw
                    case rel => exact ⟨k2 + 1, true, by omega, by go_num, rfl, HN2, hb6z⟩
                    case measure => simp [intOf]; omega
                · have HN2 : Hid (true = decide (bts s ∈ L.take (k2 + 1))) := Lib.hid (by rw [HT.out, ← HFd.out]; rfl)
                  go_wp2
                  go_roundw
                  case rel => exact ⟨k2 + 1, true, by omega, by go_num, rfl, HN2, hb6z⟩
                  case measure => simp [intOf]; omega
            · obtain rfl : k2 = L.length := by omega
              have HE2 : Hid (fb = ((cr : Int) == (k : Int))) := Lib.hid (by
                rw [HFd.out, List.take_length, Bool.eq_iff_iff, decide_eq_true_eq, beq_iff_eq, HW.out.self, HCRK.out]
                omega)
              cases fb
              · have hq : ((cr : Int) == (k : Int)) = false := HE2.out.symm
                go_wp2
                go_ret
                exact ⟨rfl, hb1.trans ((b16.trans (hb.mono b16.size)).mono hb1.size)⟩
              · have hq : ((cr : Int) == (k : Int)) = true := HE2.out.symm
                go_wp2
                go_ret
                exact ⟨rfl, hb1.trans ((b16.trans (hb.mono b16.size)).mono hb1.size)⟩
        · obtain rfl : N = 16 := HN.out
          have HNL2 := HNL.out
          go_upto_region 16 with (fail)
          clear p0 hw1 hw2 HN
          go_wp2
          go_loopw [14, 13] (fun i ff wr => ∃ (k2 : Nat) (fb : Bool), k2 ≤ L.length ∧ i = .int .i64 k2 ∧ ff = .bool fb ∧ Hid (fb = decide (bts s ∈ L.take k2)) ∧ Below w6.heap.size w6 wr) (fun i _ _ => L.length - (intOf i).toNat)
          case atStart => exact ⟨0, false, by omega, rfl, rfl, Lib.hid (by simp), Below.refl _ _⟩
          case round =>
            obtain ⟨k2, fb, hk2, rfl, rfl, HFd, hb⟩ := hrel
            by_cases hlt : k2 < L.length
            · obtain ⟨G, hG⟩ : ∃ G, L[k2]? = some G := ⟨L[k2], List.getElem?_eq_getElem hlt⟩
              have HG : Hid (Agr (bts s) u G ∧ crcN G 65535 = k) := Lib.hid (HW.out.all G (List.mem_of_getElem? hG))
              have PG := Lib.hid (HC3.out k2 G hG)
              have RB : ∀ x : Wb wr, x.1.cell? ⟨g3, k2, none⟩ = some (.string (strN G)) := fun x => Wb.cell ((hb.cell (p := ⟨g3, k2, none⟩) hg3w).trans PG.out) x
              have HC : Hid (∀ x : Wb wr, Calls Try.prog 47 #[.string (strN G), .int .i64 65535] x.1 fun e w' => e = .returned (.int .i64 k) ∧ Below x.1.heap.size x.1 w') := Lib.hid (fun x => (HCF2.out G HG.out x.1).mono fun e w' h => ⟨h.1, by rw [h.2]; exact Below.refl _ _⟩)
              have HAx : Hid (∀ x : Wb wr, Calls Try.prog 48 #[.string (strN G), .string s, v] x.1 fun e w' => e = .returned (.bool true) ∧ Below x.1.heap.size x.1 w') := Lib.hid (fun x => HAG2.out G HG.out x.1 (HIA.out _ (b16.trans ((hb.trans (x.2.mono hb.size)).mono b16.size))))
              have HT : Hid (decide (bts s ∈ L.take (k2 + 1)) = (decide (bts s ∈ L.take k2) || decide (bts s = G))) := Lib.hid (by rw [List.take_add_one, hG]; simp [Option.toList])
              have HGS : Hid (((strN G).toList == s.toList) = decide (bts s = G)) := Lib.hid (by have := eq_str (a := G) (b := bts s) HG.out.1.lt bts_lt; rw [strN_bts] at this; rw [this, Bool.eq_iff_iff, beq_iff_eq, decide_eq_true_eq]; exact eq_comm)
              have dlt : decide ((k2 : Int) < (L.length : Int)) = true := by rw [decide_eq_true_eq]; omega
              rw [HNL2] at dlt
              by_cases hk0 : k2 = 0
              · have dk : decide ((0 : Int) < (k2 : Int)) = false := by rw [decide_eq_false_iff_not]; omega
                have dk2 : decide (0 < k2) = false := by rw [decide_eq_false_iff_not]; omega
                have RB0 : True := trivial
                clear hk0
                go_upto_region 20 with (fail)
                refine wp_region_wb (by kernel_rfl) (by kernel_rfl) ?_
                repeat (go_big_quiet_step (first | (go_at_call 47; exact Wb.calls (HC.out _)) | (go_at_call 48; exact Wb.calls (HAx.out _))))
                refine wpQuiet_nil ?_; intro wq hw'; obtain ⟨⟨wz, hbz⟩, hw''⟩ := hw'; subst hw''
                have hb6z : Below w6.heap.size w6 wq := hb.trans (hbz.mono hb.size)
                have p2 : wq.cell? ⟨g3, k2, none⟩ = some (.string (strN G)) := (hb6z.cell (p := ⟨g3, k2, none⟩) hg3w).trans PG.out
                clear RB RB0 hbz hb
                cases fb
                · cases hgs : ((strN G).toList == s.toList)
                  · have HN2 : Hid (false = decide (bts s ∈ L.take (k2 + 1))) := Lib.hid (by rw [HT.out, ← HFd.out, ← HGS.out, hgs]; rfl)
                    go_wp2
                    go_roundw
                    case rel => exact ⟨k2 + 1, false, by omega, by go_num, rfl, HN2, hb6z⟩
                    case measure => simp [intOf]; omega
                  · have HN2 : Hid (true = decide (bts s ∈ L.take (k2 + 1))) := Lib.hid (by rw [HT.out, ← HFd.out, ← HGS.out, hgs]; rfl)
                    go_wp2
                    go_roundw
                    case rel => exact ⟨k2 + 1, true, by omega, by go_num, rfl, HN2, hb6z⟩
                    case measure => simp [intOf]; omega
                · have HN2 : Hid (true = decide (bts s ∈ L.take (k2 + 1))) := Lib.hid (by rw [HT.out, ← HFd.out]; rfl)
                  go_wp2
                  go_roundw
                  case rel => exact ⟨k2 + 1, true, by omega, by go_num, rfl, HN2, hb6z⟩
                  case measure => simp [intOf]; omega
              · obtain ⟨k0, hk0e⟩ : ∃ k0 : Nat, (k2 : Int) - 1 = k0 := ⟨k2 - 1, by omega⟩
                obtain ⟨G0, hG0⟩ : ∃ G0, L[k0]? = some G0 := ⟨L[k0]'(by omega), List.getElem?_eq_getElem (by omega)⟩
                have PG0 := Lib.hid (HC3.out k0 G0 hG0)
                have RB0 : ∀ x : Wb wr, x.1.cell? ⟨g3, k0, none⟩ = some (.string (strN G0)) := fun x => Wb.cell ((hb.cell (p := ⟨g3, k0, none⟩) hg3w).trans PG0.out) x
                have hlt0 := (List.pairwise_iff_getElem.1 HW.out.srt) k0 k2 (by omega) hlt (by omega)
                rw [(List.getElem?_eq_some_iff.1 hG0).2, (List.getElem?_eq_some_iff.1 hG).2] at hlt0
                obtain ⟨y1, y2, y3⟩ := ltL_ord (HW.out.all G0 (List.mem_of_getElem? hG0)).1.lt HG.out.1.lt hlt0
                have dk : decide ((0 : Int) < (k2 : Int)) = true := by rw [decide_eq_true_eq]; omega
                have dk2 : decide (0 < k2) = true := by rw [decide_eq_true_eq]; omega
                have dk3 : 0 < k2 := by omega
                clear hG0 hlt0 hG
                go_upto_region 20 with (fail)
                refine wp_region_wb (by kernel_rfl) (by kernel_rfl) ?_
                repeat (go_big_quiet_step (first | (go_at_call 47; exact Wb.calls (HC.out _)) | (go_at_call 48; exact Wb.calls (HAx.out _))))
                refine wpQuiet_nil ?_; intro wq hw'; obtain ⟨⟨wz, hbz⟩, hw''⟩ := hw'; subst hw''
                have hb6z : Below w6.heap.size w6 wq := hb.trans (hbz.mono hb.size)
                have p2 : wq.cell? ⟨g3, k2, none⟩ = some (.string (strN G)) := (hb6z.cell (p := ⟨g3, k2, none⟩) hg3w).trans PG.out
                clear RB RB0 hbz hb
                cases fb
                · cases hgs : ((strN G).toList == s.toList)
                  · have HN2 : Hid (false = decide (bts s ∈ L.take (k2 + 1))) := Lib.hid (by rw [HT.out, ← HFd.out, ← HGS.out, hgs]; rfl)
                    go_wp2
                    go_roundw
                    case rel => exact ⟨k2 + 1, false, by omega, by go_num, rfl, HN2, hb6z⟩
                    case measure => simp [intOf]; omega
                  · have HN2 : Hid (true = decide (bts s ∈ L.take (k2 + 1))) := Lib.hid (by rw [HT.out, ← HFd.out, ← HGS.out, hgs]; rfl)
                    go_wp2
                    go_roundw
                    case rel => exact ⟨k2 + 1, true, by omega, by go_num, rfl, HN2, hb6z⟩
                    case measure => simp [intOf]; omega
                · have HN2 : Hid (true = decide (bts s ∈ L.take (k2 + 1))) := Lib.hid (by rw [HT.out, ← HFd.out]; rfl)
                  go_wp2
                  go_roundw
                  case rel => exact ⟨k2 + 1, true, by omega, by go_num, rfl, HN2, hb6z⟩
                  case measure => simp [intOf]; omega
            · obtain rfl : k2 = L.length := by omega
              have HE2 : Hid (fb = ((cr : Int) == (k : Int))) := Lib.hid (by
                rw [HFd.out, List.take_length, Bool.eq_iff_iff, decide_eq_true_eq, beq_iff_eq, HW.out.self, HCRK.out]
                omega)
              cases fb
              · have hq : ((cr : Int) == (k : Int)) = false := HE2.out.symm
                go_wp2
                go_ret
                exact ⟨rfl, hb1.trans ((b16.trans (hb.mono b16.size)).mono hb1.size)⟩
              · have hq : ((cr : Int) == (k : Int)) = true := HE2.out.symm
                go_wp2
                go_ret
                exact ⟨rfl, hb1.trans ((b16.trans (hb.mono b16.size)).mono hb1.size)⟩
        · obtain rfl : N = 32 := HN.out
          have HNL2 := HNL.out
          go_upto_region 16 with (fail)
          clear p0 hw1 hw2 HN
          go_wp2
          go_loopw [14, 13] (fun i ff wr => ∃ (k2 : Nat) (fb : Bool), k2 ≤ L.length ∧ i = .int .i64 k2 ∧ ff = .bool fb ∧ Hid (fb = decide (bts s ∈ L.take k2)) ∧ Below w6.heap.size w6 wr) (fun i _ _ => L.length - (intOf i).toNat)
          case atStart => exact ⟨0, false, by omega, rfl, rfl, Lib.hid (by simp), Below.refl _ _⟩
          case round =>
            obtain ⟨k2, fb, hk2, rfl, rfl, HFd, hb⟩ := hrel
            by_cases hlt : k2 < L.length
            · obtain ⟨G, hG⟩ : ∃ G, L[k2]? = some G := ⟨L[k2], List.getElem?_eq_getElem hlt⟩
              have HG : Hid (Agr (bts s) u G ∧ crcN G 65535 = k) := Lib.hid (HW.out.all G (List.mem_of_getElem? hG))
              have PG := Lib.hid (HC3.out k2 G hG)
              have RB : ∀ x : Wb wr, x.1.cell? ⟨g3, k2, none⟩ = some (.string (strN G)) := fun x => Wb.cell ((hb.cell (p := ⟨g3, k2, none⟩) hg3w).trans PG.out) x
              have HC : Hid (∀ x : Wb wr, Calls Try.prog 47 #[.string (strN G), .int .i64 65535] x.1 fun e w' => e = .returned (.int .i64 k) ∧ Below x.1.heap.size x.1 w') := Lib.hid (fun x => (HCF2.out G HG.out x.1).mono fun e w' h => ⟨h.1, by rw [h.2]; exact Below.refl _ _⟩)
              have HAx : Hid (∀ x : Wb wr, Calls Try.prog 48 #[.string (strN G), .string s, v] x.1 fun e w' => e = .returned (.bool true) ∧ Below x.1.heap.size x.1 w') := Lib.hid (fun x => HAG2.out G HG.out x.1 (HIA.out _ (b16.trans ((hb.trans (x.2.mono hb.size)).mono b16.size))))
              have HT : Hid (decide (bts s ∈ L.take (k2 + 1)) = (decide (bts s ∈ L.take k2) || decide (bts s = G))) := Lib.hid (by rw [List.take_add_one, hG]; simp [Option.toList])
              have HGS : Hid (((strN G).toList == s.toList) = decide (bts s = G)) := Lib.hid (by have := eq_str (a := G) (b := bts s) HG.out.1.lt bts_lt; rw [strN_bts] at this; rw [this, Bool.eq_iff_iff, beq_iff_eq, decide_eq_true_eq]; exact eq_comm)
              have dlt : decide ((k2 : Int) < (L.length : Int)) = true := by rw [decide_eq_true_eq]; omega
              rw [HNL2] at dlt
              by_cases hk0 : k2 = 0
              · have dk : decide ((0 : Int) < (k2 : Int)) = false := by rw [decide_eq_false_iff_not]; omega
                have dk2 : decide (0 < k2) = false := by rw [decide_eq_false_iff_not]; omega
                have RB0 : True := trivial
                clear hk0
                go_upto_region 20 with (fail)
                refine wp_region_wb (by kernel_rfl) (by kernel_rfl) ?_
                repeat (go_big_quiet_step (first | (go_at_call 47; exact Wb.calls (HC.out _)) | (go_at_call 48; exact Wb.calls (HAx.out _))))
                refine wpQuiet_nil ?_; intro wq hw'; obtain ⟨⟨wz, hbz⟩, hw''⟩ := hw'; subst hw''
                have hb6z : Below w6.heap.size w6 wq := hb.trans (hbz.mono hb.size)
                have p2 : wq.cell? ⟨g3, k2, none⟩ = some (.string (strN G)) := (hb6z.cell (p := ⟨g3, k2, none⟩) hg3w).trans PG.out
                clear RB RB0 hbz hb
                cases fb
                · cases hgs : ((strN G).toList == s.toList)
                  · have HN2 : Hid (false = decide (bts s ∈ L.take (k2 + 1))) := Lib.hid (by rw [HT.out, ← HFd.out, ← HGS.out, hgs]; rfl)
                    go_wp2
                    go_roundw
                    case rel => exact ⟨k2 + 1, false, by omega, by go_num, rfl, HN2, hb6z⟩
                    case measure => simp [intOf]; omega
                  · have HN2 : Hid (true = decide (bts s ∈ L.take (k2 + 1))) := Lib.hid (by rw [HT.out, ← HFd.out, ← HGS.out, hgs]; rfl)
                    go_wp2
                    go_roundw
                    case rel => exact ⟨k2 + 1, true, by omega, by go_num, rfl, HN2, hb6z⟩
                    case measure => simp [intOf]; omega
                · have HN2 : Hid (true = decide (bts s ∈ L.take (k2 + 1))) := Lib.hid (by rw [HT.out, ← HFd.out]; rfl)
                  go_wp2
                  go_roundw
                  case rel => exact ⟨k2 + 1, true, by omega, by go_num, rfl, HN2, hb6z⟩
                  case measure => simp [intOf]; omega
              · obtain ⟨k0, hk0e⟩ : ∃ k0 : Nat, (k2 : Int) - 1 = k0 := ⟨k2 - 1, by omega⟩
                obtain ⟨G0, hG0⟩ : ∃ G0, L[k0]? = some G0 := ⟨L[k0]'(by omega), List.getElem?_eq_getElem (by omega)⟩
                have PG0 := Lib.hid (HC3.out k0 G0 hG0)
                have RB0 : ∀ x : Wb wr, x.1.cell? ⟨g3, k0, none⟩ = some (.string (strN G0)) := fun x => Wb.cell ((hb.cell (p := ⟨g3, k0, none⟩) hg3w).trans PG0.out) x
                have hlt0 := (List.pairwise_iff_getElem.1 HW.out.srt) k0 k2 (by omega) hlt (by omega)
                rw [(List.getElem?_eq_some_iff.1 hG0).2, (List.getElem?_eq_some_iff.1 hG).2] at hlt0
                obtain ⟨y1, y2, y3⟩ := ltL_ord (HW.out.all G0 (List.mem_of_getElem? hG0)).1.lt HG.out.1.lt hlt0
                have dk : decide ((0 : Int) < (k2 : Int)) = true := by rw [decide_eq_true_eq]; omega
                have dk2 : decide (0 < k2) = true := by rw [decide_eq_true_eq]; omega
                have dk3 : 0 < k2 := by omega
                clear hG0 hlt0 hG
                go_upto_region 20 with (fail)
                refine wp_region_wb (by kernel_rfl) (by kernel_rfl) ?_
                repeat (go_big_quiet_step (first | (go_at_call 47; exact Wb.calls (HC.out _)) | (go_at_call 48; exact Wb.calls (HAx.out _))))
                refine wpQuiet_nil ?_; intro wq hw'; obtain ⟨⟨wz, hbz⟩, hw''⟩ := hw'; subst hw''
                have hb6z : Below w6.heap.size w6 wq := hb.trans (hbz.mono hb.size)
                have p2 : wq.cell? ⟨g3, k2, none⟩ = some (.string (strN G)) := (hb6z.cell (p := ⟨g3, k2, none⟩) hg3w).trans PG.out
                clear RB RB0 hbz hb
                cases fb
                · cases hgs : ((strN G).toList == s.toList)
                  · have HN2 : Hid (false = decide (bts s ∈ L.take (k2 + 1))) := Lib.hid (by rw [HT.out, ← HFd.out, ← HGS.out, hgs]; rfl)
                    go_wp2
                    go_roundw
                    case rel => exact ⟨k2 + 1, false, by omega, by go_num, rfl, HN2, hb6z⟩
                    case measure => simp [intOf]; omega
                  · have HN2 : Hid (true = decide (bts s ∈ L.take (k2 + 1))) := Lib.hid (by rw [HT.out, ← HFd.out, ← HGS.out, hgs]; rfl)
                    go_wp2
                    go_roundw
                    case rel => exact ⟨k2 + 1, true, by omega, by go_num, rfl, HN2, hb6z⟩
                    case measure => simp [intOf]; omega
                · have HN2 : Hid (true = decide (bts s ∈ L.take (k2 + 1))) := Lib.hid (by rw [HT.out, ← HFd.out]; rfl)
                  go_wp2
                  go_roundw
                  case rel => exact ⟨k2 + 1, true, by omega, by go_num, rfl, HN2, hb6z⟩
                  case measure => simp [intOf]; omega
            · obtain rfl : k2 = L.length := by omega
              have HE2 : Hid (fb = ((cr : Int) == (k : Int))) := Lib.hid (by
                rw [HFd.out, List.take_length, Bool.eq_iff_iff, decide_eq_true_eq, beq_iff_eq, HW.out.self, HCRK.out]
                omega)
              cases fb
              · have hq : ((cr : Int) == (k : Int)) = false := HE2.out.symm
                go_wp2
                go_ret
                exact ⟨rfl, hb1.trans ((b16.trans (hb.mono b16.size)).mono hb1.size)⟩
              · have hq : ((cr : Int) == (k : Int)) = true := HE2.out.symm
                go_wp2
                go_ret
                exact ⟨rfl, hb1.trans ((b16.trans (hb.mono b16.size)).mono hb1.size)⟩
        · obtain rfl : N = 64 := HN.out
          have HNL2 := HNL.out
          go_upto_region 16 with (fail)
          clear p0 hw1 hw2 HN
          go_wp2
          go_loopw [14, 13] (fun i ff wr => ∃ (k2 : Nat) (fb : Bool), k2 ≤ L.length ∧ i = .int .i64 k2 ∧ ff = .bool fb ∧ Hid (fb = decide (bts s ∈ L.take k2)) ∧ Below w6.heap.size w6 wr) (fun i _ _ => L.length - (intOf i).toNat)
          case atStart => exact ⟨0, false, by omega, rfl, rfl, Lib.hid (by simp), Below.refl _ _⟩
          case round =>
            obtain ⟨k2, fb, hk2, rfl, rfl, HFd, hb⟩ := hrel
            by_cases hlt : k2 < L.length
            · obtain ⟨G, hG⟩ : ∃ G, L[k2]? = some G := ⟨L[k2], List.getElem?_eq_getElem hlt⟩
              have HG : Hid (Agr (bts s) u G ∧ crcN G 65535 = k) := Lib.hid (HW.out.all G (List.mem_of_getElem? hG))
              have PG := Lib.hid (HC3.out k2 G hG)
              have RB : ∀ x : Wb wr, x.1.cell? ⟨g3, k2, none⟩ = some (.string (strN G)) := fun x => Wb.cell ((hb.cell (p := ⟨g3, k2, none⟩) hg3w).trans PG.out) x
              have HC : Hid (∀ x : Wb wr, Calls Try.prog 47 #[.string (strN G), .int .i64 65535] x.1 fun e w' => e = .returned (.int .i64 k) ∧ Below x.1.heap.size x.1 w') := Lib.hid (fun x => (HCF2.out G HG.out x.1).mono fun e w' h => ⟨h.1, by rw [h.2]; exact Below.refl _ _⟩)
              have HAx : Hid (∀ x : Wb wr, Calls Try.prog 48 #[.string (strN G), .string s, v] x.1 fun e w' => e = .returned (.bool true) ∧ Below x.1.heap.size x.1 w') := Lib.hid (fun x => HAG2.out G HG.out x.1 (HIA.out _ (b16.trans ((hb.trans (x.2.mono hb.size)).mono b16.size))))
              have HT : Hid (decide (bts s ∈ L.take (k2 + 1)) = (decide (bts s ∈ L.take k2) || decide (bts s = G))) := Lib.hid (by rw [List.take_add_one, hG]; simp [Option.toList])
              have HGS : Hid (((strN G).toList == s.toList) = decide (bts s = G)) := Lib.hid (by have := eq_str (a := G) (b := bts s) HG.out.1.lt bts_lt; rw [strN_bts] at this; rw [this, Bool.eq_iff_iff, beq_iff_eq, decide_eq_true_eq]; exact eq_comm)
              have dlt : decide ((k2 : Int) < (L.length : Int)) = true := by rw [decide_eq_true_eq]; omega
              rw [HNL2] at dlt
              by_cases hk0 : k2 = 0
              · have dk : decide ((0 : Int) < (k2 : Int)) = false := by rw [decide_eq_false_iff_not]; omega
                have dk2 : decide (0 < k2) = false := by rw [decide_eq_false_iff_not]; omega
                have RB0 : True := trivial
                clear hk0
                go_upto_region 20 with (fail)
                refine wp_region_wb (by kernel_rfl) (by kernel_rfl) ?_
                repeat (go_big_quiet_step (first | (go_at_call 47; exact Wb.calls (HC.out _)) | (go_at_call 48; exact Wb.calls (HAx.out _))))
                refine wpQuiet_nil ?_; intro wq hw'; obtain ⟨⟨wz, hbz⟩, hw''⟩ := hw'; subst hw''
                have hb6z : Below w6.heap.size w6 wq := hb.trans (hbz.mono hb.size)
                have p2 : wq.cell? ⟨g3, k2, none⟩ = some (.string (strN G)) := (hb6z.cell (p := ⟨g3, k2, none⟩) hg3w).trans PG.out
                clear RB RB0 hbz hb
                cases fb
                · cases hgs : ((strN G).toList == s.toList)
                  · have HN2 : Hid (false = decide (bts s ∈ L.take (k2 + 1))) := Lib.hid (by rw [HT.out, ← HFd.out, ← HGS.out, hgs]; rfl)
                    go_wp2
                    go_roundw
                    case rel => exact ⟨k2 + 1, false, by omega, by go_num, rfl, HN2, hb6z⟩
                    case measure => simp [intOf]; omega
                  · have HN2 : Hid (true = decide (bts s ∈ L.take (k2 + 1))) := Lib.hid (by rw [HT.out, ← HFd.out, ← HGS.out, hgs]; rfl)
                    go_wp2
                    go_roundw
                    case rel => exact ⟨k2 + 1, true, by omega, by go_num, rfl, HN2, hb6z⟩
                    case measure => simp [intOf]; omega
                · have HN2 : Hid (true = decide (bts s ∈ L.take (k2 + 1))) := Lib.hid (by rw [HT.out, ← HFd.out]; rfl)
                  go_wp2
                  go_roundw
                  case rel => exact ⟨k2 + 1, true, by omega, by go_num, rfl, HN2, hb6z⟩
                  case measure => simp [intOf]; omega
              · obtain ⟨k0, hk0e⟩ : ∃ k0 : Nat, (k2 : Int) - 1 = k0 := ⟨k2 - 1, by omega⟩
                obtain ⟨G0, hG0⟩ : ∃ G0, L[k0]? = some G0 := ⟨L[k0]'(by omega), List.getElem?_eq_getElem (by omega)⟩
                have PG0 := Lib.hid (HC3.out k0 G0 hG0)
                have RB0 : ∀ x : Wb wr, x.1.cell? ⟨g3, k0, none⟩ = some (.string (strN G0)) := fun x => Wb.cell ((hb.cell (p := ⟨g3, k0, none⟩) hg3w).trans PG0.out) x
                have hlt0 := (List.pairwise_iff_getElem.1 HW.out.srt) k0 k2 (by omega) hlt (by omega)
                rw [(List.getElem?_eq_some_iff.1 hG0).2, (List.getElem?_eq_some_iff.1 hG).2] at hlt0
                obtain ⟨y1, y2, y3⟩ := ltL_ord (HW.out.all G0 (List.mem_of_getElem? hG0)).1.lt HG.out.1.lt hlt0
                have dk : decide ((0 : Int) < (k2 : Int)) = true := by rw [decide_eq_true_eq]; omega
                have dk2 : decide (0 < k2) = true := by rw [decide_eq_true_eq]; omega
                have dk3 : 0 < k2 := by omega
                clear hG0 hlt0 hG
                go_upto_region 20 with (fail)
                refine wp_region_wb (by kernel_rfl) (by kernel_rfl) ?_
                repeat (go_big_quiet_step (first | (go_at_call 47; exact Wb.calls (HC.out _)) | (go_at_call 48; exact Wb.calls (HAx.out _))))
                refine wpQuiet_nil ?_; intro wq hw'; obtain ⟨⟨wz, hbz⟩, hw''⟩ := hw'; subst hw''
                have hb6z : Below w6.heap.size w6 wq := hb.trans (hbz.mono hb.size)
                have p2 : wq.cell? ⟨g3, k2, none⟩ = some (.string (strN G)) := (hb6z.cell (p := ⟨g3, k2, none⟩) hg3w).trans PG.out
                clear RB RB0 hbz hb
                cases fb
                · cases hgs : ((strN G).toList == s.toList)
                  · have HN2 : Hid (false = decide (bts s ∈ L.take (k2 + 1))) := Lib.hid (by rw [HT.out, ← HFd.out, ← HGS.out, hgs]; rfl)
                    go_wp2
                    go_roundw
                    case rel => exact ⟨k2 + 1, false, by omega, by go_num, rfl, HN2, hb6z⟩
                    case measure => simp [intOf]; omega
                  · have HN2 : Hid (true = decide (bts s ∈ L.take (k2 + 1))) := Lib.hid (by rw [HT.out, ← HFd.out, ← HGS.out, hgs]; rfl)
                    go_wp2
                    go_roundw
                    case rel => exact ⟨k2 + 1, true, by omega, by go_num, rfl, HN2, hb6z⟩
                    case measure => simp [intOf]; omega
                · have HN2 : Hid (true = decide (bts s ∈ L.take (k2 + 1))) := Lib.hid (by rw [HT.out, ← HFd.out]; rfl)
                  go_wp2
                  go_roundw
                  case rel => exact ⟨k2 + 1, true, by omega, by go_num, rfl, HN2, hb6z⟩
                  case measure => simp [intOf]; omega
            · obtain rfl : k2 = L.length := by omega
              have HE2 : Hid (fb = ((cr : Int) == (k : Int))) := Lib.hid (by
                rw [HFd.out, List.take_length, Bool.eq_iff_iff, decide_eq_true_eq, beq_iff_eq, HW.out.self, HCRK.out]
                omega)
              cases fb
              · have hq : ((cr : Int) == (k : Int)) = false := HE2.out.symm
                go_wp2
                go_ret
                exact ⟨rfl, hb1.trans ((b16.trans (hb.mono b16.size)).mono hb1.size)⟩
              · have hq : ((cr : Int) == (k : Int)) = true := HE2.out.symm
                go_wp2
                go_ret
                exact ⟨rfl, hb1.trans ((b16.trans (hb.mono b16.size)).mono hb1.size)⟩
      · have HA := Lib.hid (HAL3.out h6)
        have d6 : decide ((6 : Int) < (f : Int)) = true := by rw [decide_eq_true_eq]; omega
        have d0 : decide ((f : Int) < 0) = false := by rw [decide_eq_false_iff_not]; omega
        have d64 : decide ((64 : Int) < (f : Int)) = false := by rw [decide_eq_false_iff_not]; omega
        clear HAL2 HAL3 HFR
        go_wp2_with (fail)
        refine (HA.out _ (HIA.out _ hb2)).mono ?_; rintro e w3 ⟨v3, rfl, o3, hb3⟩
        have b13 := hb2.trans (hb3.mono hb2.size)
        go_wp2_with (fail)
        refine (HFI.out _ (HIA.out _ b13)).mono ?_; rintro e w4 ⟨rfl, hb4⟩
        have b14 := b13.trans (hb4.mono b13.size)
        clear o3 hb3 hb4 hb2 b13 HA HFI
        go_wp2_with (fail)
        refine (HCR.out _).mono ?_; rintro e w5 ⟨rfl, hW⟩; obtain rfl := hW.symm
        go_wp2_with (fail)
        refine (HCF2.out F HF0.out _).mono ?_; rintro e w5 ⟨rfl, hW⟩; obtain rfl := hW.symm
        go_wp2_with (fail)
        refine (HAG2.out F HF0.out _ (HIA.out _ b14)).mono ?_; rintro e w6 ⟨rfl, hb6⟩
        have b16 := b14.trans (hb6.mono b14.size)
        go_wp2
        go_ret
        exact ⟨rfl, hb1.trans (b16.mono hb1.size)⟩
end Go.Proofs.Ytklalbbacbaoiaa
