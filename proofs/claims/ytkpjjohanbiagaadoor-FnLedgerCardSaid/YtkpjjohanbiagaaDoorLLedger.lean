/- FnLedger: the walk. -/
import Derived.Test.YtkpjjohanbiagaaDoorLedA
import Derived.Test.YtkpjjohanbiagaaDoorLedB
import Derived.Test.YtkpjjohanbiagaaDoorLedQ
import Derived.Test.YtkpjjohanbiagaaDoorRdlJ
namespace Go.Proofs.YtkpjjohanbiagaaDoor
set_option linter.unusedVariables false
set_option linter.unusedSimpArgs false
open Go.RowKit
theorem flip_val {x : Int} {r : Nat} (hx : 0 ≤ x ∧ x ≤ 65535) (hr : r < 16) : bits BinOp.xor IntKind.i64 x (IntKind.i64.wrap (2 ^ min (IntKind.u64.wrap (r : Int)).toNat 64)) = flipI x r := by
  have h1 : (IntKind.u64.wrap (r : Int)).toNat = r := by rw [IntKind.wrap_u64]; omega
  rw [h1, Nat.min_eq_left (by omega)]
  have h2 : 2 ^ r < 65536 := pow_lt ⟨r, hr⟩
  have h3 : (2 ^ r : Int) = ((2 ^ r : Nat) : Int) := by push_cast; rfl
  have h4 : ∀ p : Nat, p < 65536 → IntKind.i64.wrap (p : Int) = (p : Int) := fun p hp => by rw [IntKind.wrap_i64]; omega
  rw [h3, h4 _ h2]
  obtain ⟨m, rfl⟩ := Int.eq_ofNat_of_zero_le hx.1
  have := i64_xor_nat m (2 ^ r) (by omega) (by omega)
  unfold flipI
  rw [Int.toNat_natCast]
  exact this
theorem set_vb {l : List Ent} {k m : Nat} {e' : Ent} (h : ∀ e ∈ l, e.verb.size ≤ m) (h2 : e'.verb.size ≤ m) : ∀ e ∈ l.set k e', e.verb.size ≤ m := fun e he => by
  rcases List.mem_or_eq_of_mem_set he with h1 | rfl
  · exact h e h1
  · exact h2
theorem region_still_at {P : Program} {id : Nat} {Q : Exit → Act → World → Prop} {a : Act} {w : World} {l : List Oper} (n : Nat) (hm : P.follows .mixedOrders = true) (hB : Region.lexTailB .any l.toArray n = true)
    (h : ∀ w6, w6 = w.drew → wpStill P l.toArray w6 (fun a' => wpList P l.toArray Q (l.drop n) a' w6) (l.take n) a) : (Code.region id l.toArray true).wp P Q a w := wp_region_still_tail n hm hB (h _ rfl)
theorem broken_no : ∀ {l : List Ent} {i : Nat} {last prev : Int}, broken i last prev l < 0 → broken i last prev l = -1 := by
  intro l
  induction l with
  | nil => intro _ _ _ _; rfl
  | cons a r ih =>
    intro i last prev h
    rw [broken] at h ⊢
    split at h
    · rename_i hok
      rw [if_pos hok]; exact ih h
    · omega
set_option maxRecDepth 20000 in
set_option maxHeartbeats 8000000 in
theorem walkFnLedger (A : Option Addr) (n c : Nat) (A2 : Option Addr) (n2 c2 : Nat) (w : World) (h : BytesIn w A n) (hm : n ≤ maxLen) (h2 : BytesIn w A2 n2) (hm2 : n2 ≤ maxLen) (env : EnvR w) :
    Calls Tryd.prog 5 #[.slice A n c, .slice A2 n2 c2] w fun e w' => e = .returned (.bool true) ∧ Below w.heap.size w w' := by
  have HL := Lib.hid (b10lng A n c w hm)
  have HL2 := Lib.hid (b10lng A2 n2 c2 w hm2)
  cases hlong : decide (1048576 < n)
  rotate_left
  · rw [hlong] at HL
    go_enter Tryd.func5, Tryd.ntmps5
    go_wp2_with (fail)
    refine HL.out.mono ?_; rintro e w1 ⟨rfl, rfl⟩
    go_wp2_with (fail)
    go_ret
    exact ⟨rfl, Below.refl _ _⟩
  rw [hlong] at HL
  have hn : n ≤ 1048576 := by simpa using hlong
  clear hlong
  cases hlong2 : decide (1048576 < n2)
  rotate_left
  · rw [hlong2] at HL2
    go_enter Tryd.func5, Tryd.ntmps5
    go_wp2_with (fail)
    refine HL.out.mono ?_; rintro e w1 ⟨rfl, rfl⟩
    go_wp2_with (fail)
    refine HL2.out.mono ?_; rintro e w1 ⟨rfl, rfl⟩
    go_wp2_with (fail)
    go_ret
    exact ⟨rfl, Below.refl _ _⟩
  rw [hlong2] at HL2
  have hn2 : n2 ≤ 1048576 := by simpa using hlong2
  clear hlong2
  go_enter Tryd.func5, Tryd.ntmps5
  go_wp2_with (fail)
  refine HL.out.mono ?_; rintro e w1 ⟨rfl, rfl⟩
  go_wp2_with (fail)
  refine HL2.out.mono ?_; rintro e w1 ⟨rfl, rfl⟩
  go_wp2_with (fail)
  refine (drawA_s A n c _ h hn).mono ?_; rintro e w1 ⟨v, l, s1, s2, s3, rfl, KX, hs1, hs2, hs3, hb1⟩
  have hxl := KX.len
  have z1 := hb1.size
  have HJ := Lib.hid (appendE_io v l s1 s2 s3 w1 (by omega) KX.o (fun e he => by have := KX.vb e he; omega) (by omega) (by omega) (by omega))
  obtain ⟨Ax, cx, rfl, -, -⟩ := KX.o
  clear KX HL HL2
  go_wp2_with (fail)
  refine HJ.out.mono ?_; rintro e w2 ⟨v2, rfl, o2, hb2⟩
  have z2 := hb2.size
  have hB2 : Below w.heap.size w w2 := hb1.trans (hb2.mono z1)
  by_cases hj : (appE l s1 s2 s3).2 = 0
  rotate_left
  · have hd : ((appE l s1 s2 s3).2 != 0) = true := by simpa using hj
    generalize (appE l s1 s2 s3).2 = j at *
    clear hj HJ
    go_wp2_with (fail)
    go_ret
    exact ⟨rfl, hB2⟩
  obtain ⟨hje, hjo⟩ := appE_ok hj
  rw [hje] at o2
  rw [hj]
  have HST := Lib.hid (states_next hjo)
  have hxlen : (l ++ [nextE l s1 (crcB s2 : Int) (crcB s3 : Int)]).length = l.length + 1 := by simp
  generalize l ++ [nextE l s1 (crcB s2 : Int) (crcB s3 : Int)] = x at *
  have HO2 := Lib.hid o2.1
  have env2 := env.below hB2
  have hxv : ∀ e ∈ x, e.verb.size ≤ 1048576 := fun e he => by have := (led_ent hjo he).1; omega
  have HV := Lib.hid (fun W (hW : Below w2.heap.size w2 W) => valid_i w1.heap.size v2 x W (by omega) (OwnL.below HO2.out hW) hxv)
  have HFB := Lib.hid (fun W (hW : Below w2.heap.size w2 W) => brokenL_i w1.heap.size v2 x W (by omega) (OwnL.below HO2.out hW) hxv)
  have HSF := Lib.hid (fun W (hW : Below w2.heap.size w2 W) => states_i w1.heap.size v2 x s3 W (by omega) (OwnL.below HO2.out hW) hxv (by omega))
  have HLT := Lib.hid (ltext_i w1.heap.size x v2 w2 HO2.out (by omega) hxv env2.pw)
  rw [ledS_yes hjo] at HLT
  have HRD : Hid (∀ W, Below w2.heap.size w2 W → Calls Tryd.prog 12 #[.string (strB (ledT x))] W fun e w' => ∃ v, e = .returned (.tuple #[v, .bool true]) ∧ REntryS.own W.heap.size w'.heap.size w' v x ∧ Below W.heap.size W w') := Lib.hid (fun W hW => (read_i (strB (ledT x)) W (by have := ledS_le hjo; omega) (env2.below hW)).mono (by
    rintro e w' ⟨v, h1, h2, h3⟩
    rw [strB_list, rdS_led hjo] at h1 h2
    exact ⟨v, h1, h2, h3⟩))
  have hbk : broken 0 0 0 x = -1 := broken_no (by simpa [ledgerOk] using hjo)
  rw [hjo] at HV
  rw [hbk] at HFB
  obtain ⟨A3, c3, hv, hA3⟩ := OwnL.shape HO2.out
  rw [hxlen] at hv
  subst hv
  clear hje hj HJ env o2
  go_wp2_with (fail)
  refine HLT.out.mono ?_; rintro e w3 ⟨rfl, hb3⟩
  have z3 := hb3.size
  generalize strB (ledT x) = tx at *
  go_wp2_with (fail)
  refine (HRD.out w3 hb3).mono ?_; rintro e w4 ⟨v4, rfl, o4, hb4⟩
  have hB4 : Below w2.heap.size w2 w4 := hb3.trans (hb4.mono z3)
  obtain ⟨A4, c4, hv4, -⟩ := OwnL.shape o4.1
  rw [hxlen] at hv4
  subst hv4
  have z4 := hB4.size
  clear o4
  go_wp2_with (fail)
  refine (HV.out w4 hB4).mono ?_; rintro e w5 ⟨rfl, hb5⟩
  have hB5 : Below w2.heap.size w2 w5 := hB4.trans (hb5.mono z4)
  have z5 := hB5.size
  go_wp2_with (fail)
  refine (HFB.out w5 hB5).mono ?_; rintro e w6 ⟨rfl, hb6⟩
  have hB6 : Below w2.heap.size w2 w6 := hB5.trans (hb6.mono z5)
  have z6 := hB6.size
  go_wp2_with (fail)
  refine (HSF.out w6 hB6).mono ?_; rintro e w7 ⟨v7, rfl, o7, hb7⟩
  have hB7 : Below w2.heap.size w2 w7 := hB6.trans (hb7.mono z6)
  have z7 := hB7.size
  obtain ⟨A7, c7, rfl, -⟩ := OwnL.shape o7
  have hst := HST.out
  generalize (states x s3).length = ns at *
  have d0 : ((ns : Int) == 0) = false := by rw [Bool.eq_false_iff]; intro e; exact hst (by have := eq_of_beq e; omega)
  have d1 : decide ((ns : Int) = 0) = false := decide_eq_false (by omega)
  have d2 : decide (ns = 0) = false := decide_eq_false hst
  have hBw7 : Below w.heap.size w w7 := hB2.trans (hB7.mono hB2.size)
  obtain ⟨r0, hr0, HB0⟩ := b10at A2 n2 c2 0 (l.length + 1) w7 (h2.below hBw7 (Nat.le_refl _)) (by omega) (by omega)
  have hrk : r0 < l.length + 1 := by omega
  push_cast at HB0
  have HB0 := Lib.hid HB0
  clear o7 hb3 hb4 hb5 hb6 hb7
  go_wp2_with (fail)
  refine HB0.out.mono ?_; rintro e w8 ⟨rfl, rfl⟩
  have HSRC := Lib.hid (OwnL.below HO2.out hB7)
  obtain ⟨i0, hi, hj0, hj1, hj2⟩ := info_parts Ent.info
  clear HV HFB HSF HLT HRD HST hst d0 d1 d2 hB4 hB5 hB6 z4 z5 z6
  have HXL := Lib.hid hxlen
  go_wp2_with (at_builtin; refine wpList_appAll Ent.cells 4 Ent.len _ rfl _ _ _ rfl w8.heap.size w1.heap.size 48 48 i0 (.agg #[.string .empty, .int .i64 0, .int .i64 0, .int .i64 0]) 40 Tryd.underlying30 hi hj0 hj1 hj2 rfl (by decide) _ [] rfl (OwnL.of_empty w8 (Nat.le_refl _)) (.slice A3 (l.length + 1) c3) x rfl (HSRC.out.alloc _) entR_one (by rw [HXL.out]; simp; omega) (by omega) (by simp) ?_; intro v9 w9 how9 hg9)
  have hb9 : Below w8.heap.size w8 w9 := own_grown_below (OwnL.of_empty (f := Ent.cells) (z := 4) (α := Ent) w8 (Nat.le_refl _)) (Below.alloc (Below.refl _ _) (Nat.le_refl _) _) hg9 (Nat.le_refl _) (by simp)
  have hB9 : Below w.heap.size w w9 := hBw7.trans (hb9.mono hBw7.size)
  obtain ⟨A9, c9, hv9, hA9⟩ := OwnL.shape how9
  rw [List.nil_append] at how9 hv9 hA9
  rw [HXL.out] at hv9
  subst hv9
  obtain ⟨g9, rfl, hg91, hg92⟩ := hA9.resolve_left (by intro e; have := HXL.out; rw [e] at this; simp at this)
  obtain ⟨e0, he0⟩ : ∃ e, x[r0]? = some e := ⟨_, List.getElem?_eq_getElem (by rw [HXL.out]; exact hrk)⟩
  obtain ⟨-, he1, he2, he3⟩ := led_ent hjo (List.mem_of_getElem? he0)
  have HY := Lib.hid how9
  have hle := led_len hjo
  rw [HXL.out] at hle
  obtain ⟨r1, hr1, HB1⟩ := b10at A2 n2 c2 1 3 w9 (h2.below hB9 (Nat.le_refl _)) (by omega) (by omega)
  obtain ⟨r2, hr2, HB2⟩ := b10at A2 n2 c2 2 16 w9.drew (h2.below hB9.drew (Nat.le_refl _)) (by omega) (by omega)
  have hr216 : r2 < 16 := by omega
  have hrI : (r0 : Int) < (l.length : Int) + 1 := by omega
  have HB1 := Lib.hid HB1
  have HB2 := Lib.hid HB2
  have HMX : Hid (Tryd.prog.follows .mixedOrders = true) := Lib.hid (by kernel_rfl)
  clear how9 hg9 hA9 HSRC HB0
  go_wp2_with (fail)
  refine HB1.out.mono ?_; rintro e w10 ⟨rfl, rfl⟩
  have hr3 : r1 = 0 ∨ r1 = 1 ∨ r1 = 2 := by omega
  clear hr1 HB1
  rcases hr3 with rfl | rfl | rfl
  · go_wp2
    refine region_still_at 12 HMX.out (by kernel_rfl) (fun w6 hw6 => ?_)
    have q0 : w6.cell? ⟨g9, r0 * 4 + 1, none⟩ = some (.int .i64 e0.before) := by rw [hw6]; exact OwnL.at1 (j := 1) Ent.len HY.out he0 rfl
    have q1 : w6.frozen? ⟨g9, r0 * 4 + 1, none⟩ = false := by rw [hw6]; exact OwnL.frozen HY.out (j := r0 * 4 + 1)
    have HB2' : Hid (Calls Tryd.prog 23 #[.slice A2 n2 c2, .int .i64 2, .int .i64 16] w6 fun e w' => e = .returned (.int .i64 r2) ∧ w' = w6) := Lib.hid (by rw [hw6]; exact HB2.out)
    have HY6 := Lib.hid (OwnL.set1 Ent.len (w := w6) (by rw [hw6]; exact OwnL.below HY.out (Below.refl _ _).drew) he0 (j := 1) (by decide) (a' := { e0 with before := flipI e0.before r2 }) (u := .int .i64 (flipI e0.before r2)) rfl)
    have hB6 : Below w.heap.size w w6 := by rw [hw6]; exact hB9.drew
    clear hw6
    repeat still_step
    still_call HB2'.out
    repeat still_step
    refine wpStill_nil ?_
    rw [flip_val he1 hr216]
    have HFL := Lib.hid (flip_bad hjo he0 (e' := { e0 with before := flipI e0.before r2 }) (fun i last prev hk => ent_b (⟨r2, hr216⟩ : Fin 16) hk))
    have HLS : Hid ((x.set r0 { e0 with before := flipI e0.before r2 }).length = l.length + 1) := Lib.hid (by rw [List.length_set]; exact HXL.out)
    have HVS := Lib.hid (set_vb (k := r0) (e' := { e0 with before := flipI e0.before r2 }) hxv (hxv e0 (List.mem_of_getElem? he0)))
    generalize x.set r0 { e0 with before := flipI e0.before r2 } = y at *
    have hBs : Below w.heap.size w (w6.setCell ⟨g9, r0 * 4 + 1, none⟩ (.int .i64 (flipI e0.before r2))) := hB6.setCell (p := ⟨g9, r0 * 4 + 1, none⟩) (by show w.heap.size ≤ g9; have := hBw7.size; omega) _
    go_wp2_with (fail)
    generalize (w6.setCell ⟨g9, r0 * 4 + 1, none⟩ (.int .i64 (flipI e0.before r2))) = wS at *
    refine (brokenL_i w8.heap.size _ y wS (by rw [HLS.out]; omega) HY6.out HVS.out).mono ?_; rintro e w11 ⟨rfl, hb11⟩
    rw [HFL.out.1]
    have hB11 : Below w.heap.size w w11 := hBs.trans (hb11.mono hBs.size)
    go_wp2_with (fail)
    refine (valid_i w8.heap.size _ y w11 (by rw [HLS.out]; omega) (OwnL.below HY6.out hb11) HVS.out).mono ?_; rintro e w12 ⟨rfl, hb12⟩
    rw [HFL.out.2]
    have hB12 : Below w.heap.size w w12 := hB11.trans (hb12.mono hB11.size)
    go_wp2_with (fail)
    go_ret
    exact ⟨rfl, hB12⟩
  · go_wp2
    refine region_still_at 12 HMX.out (by kernel_rfl) (fun w6 hw6 => ?_)
    have q0 : w6.cell? ⟨g9, r0 * 4 + 2, none⟩ = some (.int .i64 e0.after) := by rw [hw6]; exact OwnL.at1 (j := 2) Ent.len HY.out he0 rfl
    have q1 : w6.frozen? ⟨g9, r0 * 4 + 2, none⟩ = false := by rw [hw6]; exact OwnL.frozen HY.out (j := r0 * 4 + 2)
    have HB2' : Hid (Calls Tryd.prog 23 #[.slice A2 n2 c2, .int .i64 2, .int .i64 16] w6 fun e w' => e = .returned (.int .i64 r2) ∧ w' = w6) := Lib.hid (by rw [hw6]; exact HB2.out)
    have HY6 := Lib.hid (OwnL.set1 Ent.len (w := w6) (by rw [hw6]; exact OwnL.below HY.out (Below.refl _ _).drew) he0 (j := 2) (by decide) (a' := { e0 with after := flipI e0.after r2 }) (u := .int .i64 (flipI e0.after r2)) rfl)
    have hB6 : Below w.heap.size w w6 := by rw [hw6]; exact hB9.drew
    clear hw6
    repeat still_step
    still_call HB2'.out
    repeat still_step
    refine wpStill_nil ?_
    rw [flip_val he2 hr216]
    have HFL := Lib.hid (flip_bad hjo he0 (e' := { e0 with after := flipI e0.after r2 }) (fun i last prev hk => ent_a (⟨r2, hr216⟩ : Fin 16) hk))
    have HLS : Hid ((x.set r0 { e0 with after := flipI e0.after r2 }).length = l.length + 1) := Lib.hid (by rw [List.length_set]; exact HXL.out)
    have HVS := Lib.hid (set_vb (k := r0) (e' := { e0 with after := flipI e0.after r2 }) hxv (hxv e0 (List.mem_of_getElem? he0)))
    generalize x.set r0 { e0 with after := flipI e0.after r2 } = y at *
    have hBs : Below w.heap.size w (w6.setCell ⟨g9, r0 * 4 + 2, none⟩ (.int .i64 (flipI e0.after r2))) := hB6.setCell (p := ⟨g9, r0 * 4 + 2, none⟩) (by show w.heap.size ≤ g9; have := hBw7.size; omega) _
    go_wp2_with (fail)
    generalize (w6.setCell ⟨g9, r0 * 4 + 2, none⟩ (.int .i64 (flipI e0.after r2))) = wS at *
    refine (brokenL_i w8.heap.size _ y wS (by rw [HLS.out]; omega) HY6.out HVS.out).mono ?_; rintro e w11 ⟨rfl, hb11⟩
    rw [HFL.out.1]
    have hB11 : Below w.heap.size w w11 := hBs.trans (hb11.mono hBs.size)
    go_wp2_with (fail)
    refine (valid_i w8.heap.size _ y w11 (by rw [HLS.out]; omega) (OwnL.below HY6.out hb11) HVS.out).mono ?_; rintro e w12 ⟨rfl, hb12⟩
    rw [HFL.out.2]
    have hB12 : Below w.heap.size w w12 := hB11.trans (hb12.mono hB11.size)
    go_wp2_with (fail)
    go_ret
    exact ⟨rfl, hB12⟩
  · go_wp2
    refine region_still_at 12 HMX.out (by kernel_rfl) (fun w6 hw6 => ?_)
    have q0 : w6.cell? ⟨g9, r0 * 4 + 3, none⟩ = some (.int .i64 e0.chain) := by rw [hw6]; exact OwnL.at1 (j := 3) Ent.len HY.out he0 rfl
    have q1 : w6.frozen? ⟨g9, r0 * 4 + 3, none⟩ = false := by rw [hw6]; exact OwnL.frozen HY.out (j := r0 * 4 + 3)
    have HB2' : Hid (Calls Tryd.prog 23 #[.slice A2 n2 c2, .int .i64 2, .int .i64 16] w6 fun e w' => e = .returned (.int .i64 r2) ∧ w' = w6) := Lib.hid (by rw [hw6]; exact HB2.out)
    have HY6 := Lib.hid (OwnL.set1 Ent.len (w := w6) (by rw [hw6]; exact OwnL.below HY.out (Below.refl _ _).drew) he0 (j := 3) (by decide) (a' := { e0 with chain := flipI e0.chain r2 }) (u := .int .i64 (flipI e0.chain r2)) rfl)
    have hB6 : Below w.heap.size w w6 := by rw [hw6]; exact hB9.drew
    clear hw6
    repeat still_step
    still_call HB2'.out
    repeat still_step
    refine wpStill_nil ?_
    rw [flip_val he3 hr216]
    have HFL := Lib.hid (flip_bad hjo he0 (e' := { e0 with chain := flipI e0.chain r2 }) (fun i last prev hk => ent_c (⟨r2, hr216⟩ : Fin 16) hk))
    have HLS : Hid ((x.set r0 { e0 with chain := flipI e0.chain r2 }).length = l.length + 1) := Lib.hid (by rw [List.length_set]; exact HXL.out)
    have HVS := Lib.hid (set_vb (k := r0) (e' := { e0 with chain := flipI e0.chain r2 }) hxv (hxv e0 (List.mem_of_getElem? he0)))
    generalize x.set r0 { e0 with chain := flipI e0.chain r2 } = y at *
    have hBs : Below w.heap.size w (w6.setCell ⟨g9, r0 * 4 + 3, none⟩ (.int .i64 (flipI e0.chain r2))) := hB6.setCell (p := ⟨g9, r0 * 4 + 3, none⟩) (by show w.heap.size ≤ g9; have := hBw7.size; omega) _
    go_wp2_with (fail)
    generalize (w6.setCell ⟨g9, r0 * 4 + 3, none⟩ (.int .i64 (flipI e0.chain r2))) = wS at *
    refine (brokenL_i w8.heap.size _ y wS (by rw [HLS.out]; omega) HY6.out HVS.out).mono ?_; rintro e w11 ⟨rfl, hb11⟩
    rw [HFL.out.1]
    have hB11 : Below w.heap.size w w11 := hBs.trans (hb11.mono hBs.size)
    go_wp2_with (fail)
    refine (valid_i w8.heap.size _ y w11 (by rw [HLS.out]; omega) (OwnL.below HY6.out hb11) HVS.out).mono ?_; rintro e w12 ⟨rfl, hb12⟩
    rw [HFL.out.2]
    have hB12 : Below w.heap.size w w12 := hB11.trans (hb12.mono hB11.size)
    go_wp2_with (fail)
    go_ret
    exact ⟨rfl, hB12⟩
end Go.Proofs.YtkpjjohanbiagaaDoor
