/- FnCertified: the walk. Opening the arguments of a law: from the form's reading to plain facts. Opening a slice of bytes that came in. What a world's shape and a listed error variable give: laws for the cards. A listed array of strings holds its words, cell for cell. DERIVED. GIVEN WITH THE SEED: THE CARDS: each row of YtddihmpiaemadaaGreatDoorRows.lean that lists a variable, with what it lists TIED to the program's text (the seventh form; the later family's looks); each row that meets fmt, with fmt's text TOLD by the authors' own Lean function (tested against real Go, not proved from fmt's source: count such statements apart). THE CARD IS WHAT COUNTS. Prove the row's statement (the work); the ties are given (YtddihmpiaemadaaGreatDoorTie.lean); close each card by the builder's one call (the guide's Derived/Test/ToyasCard.lean, 'card_holds'). Laid BY PROGRAM, IN A SANDBOX (cutbox-door.mjs). By AI agents, Wed Nov 11 2026. No macro, syntax, notation, axiom, sorry. DERIVED. GIVEN WITH THE SEED: THE PROGRAM's TIES (one call each: nine closed facts by the kernel) AND EACH ROW's TIE, after the 31st guide's Derived/Test/Toyas{Tie, Card}.lean. No idea stands in it: it is a product of the set-up. Laid BY PROGRAM, IN A SANDBOX (cutbox-door.mjs). By AI agents, Wed Nov 11 2026. No macro, syntax, notation, axiom, sorry. -/
import Derived.Test.YtddihmpiaemadaaGreatDoorFc36
import Derived.Test.YtddihmpiaemadaaGreatDoorFc38
import Derived.Test.YtddihmpiaemadaaGreatDoorFc20
import Derived.Test.YtddihmpiaemadaaGreatDoorFc39
import Derived.Test.YtddihmpiaemadaaGreatDoorFc40
import Derived.Test.YtddihmpiaemadaaGreatDoorFc41
import Derived.Test.YtddihmpiaemadaaGreatDoorFc22
import Derived.Test.YtddihmpiaemadaaGreatDoorFc43
import Derived.Test.YtddihmpiaemadaaGreatDoorFc46
import Derived.Test.YtddihmpiaemadaaGreatDoorFc01
import Derived.Test.YtddihmpiaemadaaGreatDoorFc45
import Derived.Test.YtddihmpiaemadaaGreatDoorRows
import Derived.ProofKit
import Derived.OpenShut
import Derived.ShutString
import Derived.ChangeOld
import Derived.Below
import Derived.Lib.SmallJoins
import Derived.Deep.Slices
import Derived.Stop.LaidErr
import Derived.Lib.LaidTab
import Derived.ChangeArms
import GoSem.ClaimSeven
import Derived.LaidByTextLater
import Derived.SevenTiedAt
import Derived.LaidSub
import Derived.LaidOnce
namespace Go.Proofs.YtddihmpiaemadaaGreatDoor
set_option linter.unusedVariables false
set_option linter.unusedSimpArgs false
open Go.RowKit
set_option maxHeartbeats 1000000 in
theorem b10lgt (A : Option Addr) (n c : Nat) (w : World) (hm : n ≤ maxLen) : Calls Tryz.prog 4 #[.slice A n c] w fun e w' => e = .returned (.bool (decide (1048576 < n))) ∧ w = w' := by
  go_enter Tryz.func4, Tryz.ntmps4
  go_wp2
  go_ret
  exact ⟨ret_bool (by rw [Bool.eq_iff_iff, decide_eq_true_eq, decide_eq_true_eq]; omega), rfl⟩
theorem ce_small {e : Evd} {z : Dsc} {P m T N : Nat} (hev : evOk e = true) (F : RdF e z P m T N) : (rdD e).secs.length = N ∧ (∀ s ∈ (rdD e).secs, s.data.size ≤ maxLen) := by
  have hd := ce_d hev F
  refine ⟨by rw [hd]; exact rpS_len, fun s hs => ?_⟩
  rw [hd] at hs
  obtain ⟨k, hk⟩ := List.getElem?_of_mem hs
  replace hk : (rpS e (zSec m) P N N N)[k]? = some s := hk
  have hkN : k < N := by have := (List.getElem?_eq_some_iff.1 hk).1; rwa [rpS_len] at this
  obtain ⟨g1, g2⟩ := ce_sec F hkN
  rw [g1] at hk
  injection hk with hk
  have hm2 := F.f.m2
  unfold maxLen
  rw [← hk]
  cases ho : rpK e (zSec m) P k with
  | none => rw [g2.no ho]; show (strN _).size ≤ _; rw [strN_size, List.length_replicate]; omega
  | some x => rw [(g2.yes x ho).2.1]; omega
theorem rc_text {l : List Src} (h : certOk l = true) : rcI (cerS l).data.toList = (l, true) := by
  rw [cerS_yes h, strB_list, rc_same, rcS_cer h]
theorem cer_size {l : List Src} (h : certOk l = true) : (cerS l).size ≤ 1048576 := by
  rw [cerS_yes h, strB_size]
  have h1 := cer_len h
  have h2 : ∀ s ∈ l, (srcT s).length ≤ 60 := fun s hs => by
    obtain ⟨_, h4, h5⟩ := cer_ent h hs
    have w1 := word_le s.kind.toNat
    have i1 := ito_le (n := s.sector) (by omega)
    have i2 := ito_le (n := s.dump) (by omega)
    unfold srcT
    simp only [List.length_append, List.length_cons, List.length_nil]
    split
    · simp only [List.length_cons]; omega
    · simp only [List.length_nil]; omega
  have h3 : ∀ l : List Src, (∀ s ∈ l, (srcT s).length ≤ 60) → (cerT l).length ≤ 60 * l.length := by
    intro l
    induction l with
    | nil => intro _; exact Nat.le_refl _
    | cons a r ih =>
      intro hl
      have := ih (fun s hs => hl s (List.mem_cons_of_mem _ hs))
      have ha := hl a List.mem_cons_self
      unfold cerT at this ⊢
      rw [List.map_cons, List.flatten_cons, List.length_append, List.length_cons]
      omega
  have := h3 l h2
  omega
set_option maxRecDepth 20000 in
set_option maxHeartbeats 8000000 in
theorem walkFnCertified (A : Option Addr) (n c : Nat) (w : World) (h1 : BytesIn w A n) (hm : n ≤ maxLen) (pw : Pow w) (env : EnvR w) (wd : Wrd w) :
    Calls Tryz.prog 3 #[.slice A n c] w fun e w' => e = .returned (.bool true) ∧ Below w.heap.size w w' := by
  have HL := b10lgt A n c w hm
  cases hlong : decide (1048576 < n)
  rotate_left
  · rw [hlong] at HL
    go_enter Tryz.func3, Tryz.ntmps3
    go_wp2_with (go_at_call 4; refine HL.mono ?_; rintro e w1 ⟨rfl, rfl⟩)
    go_ret
    exact ⟨rfl, Below.refl _ _⟩
  rw [hlong] at HL
  have hn1 : n ≤ 1048576 := by simpa using hlong
  have HDR := Lib.hid (drep_s A n c w h1 hn1)
  have HTB := Lib.hid (fun (w' : World) (hb : Below w.heap.size w w') => And.intro (pw.below hb) (And.intro (env.below hb) (wd.below hb)))
  clear hlong hm h1 pw env wd
  go_enter Tryz.func3, Tryz.ntmps3
  go_wp2_with (go_at_call 4; refine HL.mono ?_; rintro e w1 ⟨rfl, rfl⟩)
  refine HDR.out.mono ?_; rintro e w1 ⟨E, va, vb, vc, vd, rfl, hev, hsm, hb1⟩
  obtain ⟨A1, n1, B1, n2, C1, n3, D1, n4, rfl, rfl, rfl, rfl⟩ := hev.shape
  have z1 := hb1.size
  have ba : Below w1.heap.size w1 (w1.alloc (.cells #[.slice A1 E.ds.length n1, .slice B1 E.cr.length n2, .slice C1 E.p.length n3, .slice D1 E.q.length n4] 28)) := Below.alloc (Below.refl _ _) (Nat.le_refl _) _
  have RE : Row (w1.alloc (.cells #[.slice A1 E.ds.length n1, .slice B1 E.cr.length n2, .slice C1 E.p.length n3, .slice D1 E.q.length n4] 28)) w1.heap.size [.slice A1 E.ds.length n1, .slice B1 E.cr.length n2, .slice C1 E.p.length n3, .slice D1 E.q.length n4] := Row.alloc w1 _ _
  have HRP := Lib.hid (rpd_i w.heap.size E _ _ _ _ (w1.alloc (.cells #[.slice A1 E.ds.length n1, .slice B1 E.cr.length n2, .slice C1 E.p.length n3, .slice D1 E.q.length n4] 28)) (hev.below ba) hsm)
  have HRE := Lib.hid RE
  have HEV := Lib.hid (hev.below ba)
  have HB2 := Lib.hid (hb1.trans (ba.mono z1))
  have HSM := Lib.hid hsm
  have z2 : ((w1.alloc (.cells #[.slice A1 E.ds.length n1, .slice B1 E.cr.length n2, .slice C1 E.p.length n3, .slice D1 E.q.length n4] 28))).heap.size = w1.heap.size + 1 := by simp
  have x0 := RE 0 _ rfl
  have x1 := RE 1 _ rfl
  have x2 := RE 2 _ rfl
  have x3 := RE 3 _ rfl
  clear HL HDR hev hsm hb1 ba RE
  go_wp2_with (fail)
  generalize (w1.alloc (.cells #[.slice A1 E.ds.length n1, .slice B1 E.cr.length n2, .slice C1 E.p.length n3, .slice D1 E.q.length n4] 28)) = w2 at *
  refine HRP.out.mono ?_; rintro r w3 ⟨x, y, K, rfl, hx, hxk, hwk, hy, hb3⟩
  obtain ⟨d, hd⟩ : ∃ d, rdD E = d := ⟨_, rfl⟩
  obtain ⟨l, hl⟩ : ∃ l, rdY E = l := ⟨_, rfl⟩
  rw [hd] at hx ⊢
  rw [hl] at hy
  obtain ⟨X, c5, rfl, _⟩ := OwnL.shape hx
  obtain ⟨Y, cy, rfl, _⟩ := OwnL.shape hy
  have HD := Lib.hid hd
  have HLL := Lib.hid hl
  have z3 := hb3.size
  have Ba : Below w3.heap.size w3 ((w3.alloc (.cells #[.int .i64 d.cyl, .int .i64 d.heads, .int .i64 d.per, .int .i64 d.size, .slice X d.secs.length c5] 32)).alloc (.cells #[.slice Y l.length cy] 35)) := Below.alloc (Below.alloc (Below.refl _ _) (Nat.le_refl _) _) (by simp) _
  have HB4 := Lib.hid (HB2.out.trans ((hb3.trans (Ba.mono z3)).mono (by have := HB2.out.size; omega)))
  have HRE4 := Lib.hid (HRE.out.below (hb3.trans (Ba.mono z3)) (by omega))
  have HEV4 := Lib.hid (HEV.out.below (hb3.trans (Ba.mono z3)))
  have HRD4 : Hid (Row ((w3.alloc (.cells #[.int .i64 d.cyl, .int .i64 d.heads, .int .i64 d.per, .int .i64 d.size, .slice X d.secs.length c5] 32)).alloc (.cells #[.slice Y l.length cy] 35)) w3.heap.size [.int .i64 d.cyl, .int .i64 d.heads, .int .i64 d.per, .int .i64 d.size, .slice X d.secs.length c5]) := Lib.hid ((Row.alloc w3 #[.int .i64 d.cyl, .int .i64 d.heads, .int .i64 d.per, .int .i64 d.size, .slice X d.secs.length c5] 32).below (Below.alloc (Below.refl _ _) (Nat.le_refl _) _) (by simp))
  have s3 : (w3.alloc (.cells #[.int .i64 d.cyl, .int .i64 d.heads, .int .i64 d.per, .int .i64 d.size, .slice X d.secs.length c5] 32)).heap.size = w3.heap.size + 1 := by simp
  have HRC4 : Hid (Row ((w3.alloc (.cells #[.int .i64 d.cyl, .int .i64 d.heads, .int .i64 d.per, .int .i64 d.size, .slice X d.secs.length c5] 32)).alloc (.cells #[.slice Y l.length cy] 35)) (w3.heap.size + 1) [.slice Y l.length cy]) := Lib.hid (by
    have := Row.alloc (w3.alloc (.cells #[.int .i64 d.cyl, .int .i64 d.heads, .int .i64 d.per, .int .i64 d.size, .slice X d.secs.length c5] 32)) #[.slice Y l.length cy] 35
    rw [s3] at this; exact this)
  have HX4 := Lib.hid (OwnL.below hx Ba)
  have HY4 := Lib.hid (OwnL.below hy Ba)
  have z4 : (((w3.alloc (.cells #[.int .i64 d.cyl, .int .i64 d.heads, .int .i64 d.per, .int .i64 d.size, .slice X d.secs.length c5] 32)).alloc (.cells #[.slice Y l.length cy] 35))).heap.size = w3.heap.size + 2 := by simp
  have zb : w1.heap.size < w3.heap.size := by omega
  have x0 := HRE4.out 0 _ rfl
  have x1 := HRE4.out 1 _ rfl
  have x2 := HRE4.out 2 _ rfl
  have x3 := HRE4.out 3 _ rfl
  have HLO := Lib.hid (los_i w.heap.size E _ _ _ _ ((w3.alloc (.cells #[.int .i64 d.cyl, .int .i64 d.heads, .int .i64 d.per, .int .i64 d.size, .slice X d.secs.length c5] 32)).alloc (.cells #[.slice Y l.length cy] 35)) HEV4.out HSM.out)
  clear HRP hx hxk hwk hy hb3 hd hl HRE HEV HB2 Ba s3
  go_wp2_with (fail)
  generalize ((w3.alloc (.cells #[.int .i64 d.cyl, .int .i64 d.heads, .int .i64 d.per, .int .i64 d.size, .slice X d.secs.length c5] 32)).alloc (.cells #[.slice Y l.length cy] 35)) = w4 at *
  refine HLO.out.mono ?_; rintro r w5 ⟨vl, rfl, hlo, hb5⟩
  obtain ⟨Al, cl, rfl, _⟩ := OwnL.shape hlo
  have z5 := hb5.size
  have HB5 := Lib.hid (HB4.out.trans (hb5.mono HB4.out.size))
  have HRE5 := Lib.hid (HRE4.out.below hb5 (by omega))
  have HRD5 := Lib.hid (HRD4.out.below hb5 (by omega))
  have HRC5 := Lib.hid (HRC4.out.below hb5 (by omega))
  have HEV5 := Lib.hid (HEV4.out.below hb5)
  have HX5 := Lib.hid (OwnL.below HX4.out hb5)
  have HY5 := Lib.hid (OwnL.below HY4.out hb5)
  clear HLO HB4 HRE4 HRD4 HRC4 HEV4 HX4 HY4 hlo hb5
  cases hok : evOk E
  · have hC : rdC E = 1 := by unfold rdC; rw [hok]; rfl
    have HVE := Lib.hid (ev_s w.heap.size E _ _ _ _ w5 HEV5.out HSM.out)
    rw [hok] at HVE
    rw [hC]
    have x0 := HRE5.out 0 _ rfl
    have x1 := HRE5.out 1 _ rfl
    have x2 := HRE5.out 2 _ rfl
    have x3 := HRE5.out 3 _ rfl
    clear hC hok
    go_wp2_with (fail)
    refine HVE.out.mono ?_; rintro r w6 ⟨rfl, hb6⟩
    go_wp2_with (fail)
    go_ret
    exact ⟨rfl, HB5.out.trans (hb6.mono HB5.out.size)⟩
  have hC : rdC E = 0 := by unfold rdC; rw [hok]; rfl
  rw [hC]
  obtain ⟨z, P, m, T, N, F⟩ := rd_f hok
  have hsmall := ce_small hok F
  have hcert := ce_cert hok F
  have hdisc := ce_disc hok F
  have hunc := ce_unc hok F
  have hchk := ce_chk hok F
  have hcnt := ce_count hok F
  rw [HD.out] at hsmall hdisc hunc hchk
  rw [HLL.out] at hcert hunc hchk hcnt
  obtain ⟨hdl, hds⟩ := hsmall
  have hN2 : N ≤ 128 := F.le
  have HCERT := Lib.hid hcert
  have HUN := Lib.hid (unc_i _ _ d l _ _ w5 HX5.out HY5.out (by omega) (by omega) hds)
  rw [hunc] at HUN
  have HVD := Lib.hid (fun (w' : World) (hb : Below w5.heap.size w5 w') => disc_s _ d _ w' (OwnL.below HX5.out hb) (by omega) hds)
  have HVC := Lib.hid (fun (w' : World) (hb : Below w5.heap.size w5 w') => cert_s _ l _ w' (OwnL.below HY5.out hb) (by omega))
  have HCK := Lib.hid (fun (w' : World) (hb : Below w5.heap.size w5 w') => crt_i _ _ _ E _ _ _ _ d _ l _ w' (HEV5.out.below hb) HSM.out (OwnL.below HX5.out hb) (by omega) hds (OwnL.below HY5.out hb) (by omega))
  have HCT := Lib.hid (fun (w' : World) (hb : Below w5.heap.size w5 w') => ctext_i _ l _ w' (OwnL.below HY5.out hb) (by omega) (HTB.out w' (HB5.out.trans (hb.mono HB5.out.size))).1 (HTB.out w' (HB5.out.trans (hb.mono HB5.out.size))).2.2)
  have HRCE := Lib.hid (fun (w' : World) (hb : Below w5.heap.size w5 w') => rc_i (cerS l) w' (cer_size HCERT.out) (HTB.out w' (HB5.out.trans (hb.mono HB5.out.size))).2.1 (HTB.out w' (HB5.out.trans (hb.mono HB5.out.size))).2.2)
  rw [rc_text hcert] at HRCE
  rw [hdisc] at HVD
  rw [hcert] at HVC
  rw [hchk] at HCK
  have HYL := Lib.hid HY5.out
  obtain ⟨M, hM⟩ : ∃ M, l.length = M := ⟨_, rfl⟩
  obtain ⟨Q, hQ⟩ : ∃ Q, (rpLo E).length = Q := ⟨_, rfl⟩
  rw [hM, hQ] at hcnt
  rw [hQ]
  have hsum : (Q : Int) + (M : Int) = (N : Int) := by omega
  have hwN : IntKind.i64.wrap (N : Int) = (N : Int) := by rw [IntKind.wrap_i64]; omega
  have HML := Lib.hid hM
  rw [hdl] at HRD5 HUN HVD HCK
  rw [hM] at HRC5 HUN HVC HCK HCT HYL
  have hM2 : M ≤ 128 := by omega
  obtain ⟨ge, hge⟩ : ∃ ge, w1.heap.size = ge := ⟨_, rfl⟩
  obtain ⟨gd, hgd⟩ : ∃ gd, w3.heap.size = gd := ⟨_, rfl⟩
  rw [hge] at HRE5 zb ⊢
  rw [hgd] at HRD5 HRC5 zb z4 ⊢
  have hle : ge < w5.heap.size ∧ gd < w5.heap.size ∧ gd + 1 < w5.heap.size := by omega
  clear x0 x1 x2 x3 hC hok hcert hdisc hunc hchk hcnt hdl hds F HD HLL HEV5 HX5 HY5 HSM hM hQ hge hgd z5 zb z4 z1 z2 z3
  have y0 := HRD5.out 0 _ rfl
  have y1 := HRD5.out 1 _ rfl
  have y2 := HRD5.out 2 _ rfl
  have y3 := HRD5.out 3 _ rfl
  have y4 := HRD5.out 4 _ rfl
  have k0 := HRC5.out 0 _ rfl
  go_wp2_with (fail)
  refine HUN.out.mono ?_; rintro r w6 ⟨vu, rfl, ou, hb6⟩
  obtain ⟨Au, cu, rfl, _⟩ := OwnL.shape ou.1
  clear y0 y1 y2 y3 y4 k0 HUN ou
  have HRD6 := Lib.hid (HRD5.out.below hb6 hle.2.1)
  have y0 := HRD6.out 0 _ rfl
  have y1 := HRD6.out 1 _ rfl
  have y2 := HRD6.out 2 _ rfl
  have y3 := HRD6.out 3 _ rfl
  have y4 := HRD6.out 4 _ rfl
  go_wp2_with (fail)
  refine (HVD.out w6 hb6).mono ?_; rintro r w7 ⟨rfl, hb7⟩
  have hb57 := hb6.trans (hb7.mono hb6.size)
  clear y0 y1 y2 y3 y4 HVD HRD6 hb7
  have k0 := (HRC5.out.below hb57 hle.2.2) 0 _ rfl
  go_wp2_with (fail)
  refine (HVC.out w7 hb57).mono ?_; rintro r w8 ⟨rfl, hb8⟩
  have hb58 := hb57.trans (hb8.mono hb57.size)
  clear k0 HVC hb8 hb6 hb57
  have HRD8 := Lib.hid (HRD5.out.below hb58 hle.2.1)
  have y0 := HRD8.out 0 _ rfl
  have y1 := HRD8.out 1 _ rfl
  have y2 := HRD8.out 2 _ rfl
  have y3 := HRD8.out 3 _ rfl
  have y4 := HRD8.out 4 _ rfl
  have k0 := (HRC5.out.below hb58 hle.2.2) 0 _ rfl
  have HRE8 := Lib.hid (HRE5.out.below hb58 hle.1)
  have x0 := HRE8.out 0 _ rfl
  have x1 := HRE8.out 1 _ rfl
  have x2 := HRE8.out 2 _ rfl
  have x3 := HRE8.out 3 _ rfl
  go_wp2_with (fail)
  refine (HCK.out w8 hb58).mono ?_; rintro r w9 ⟨rfl, hb9⟩
  have hb59 := hb58.trans (hb9.mono hb58.size)
  clear y0 y1 y2 y3 y4 k0 x0 x1 x2 x3 HCK HRD8 HRE8 hb9 hb58
  have k0 := (HRC5.out.below hb59 hle.2.2) 0 _ rfl
  have y4 := (HRD5.out.below hb59 hle.2.1) 4 _ rfl
  go_wp2_with (fail)
  refine (HCT.out w9 hb59).mono ?_; rintro r w10 ⟨rfl, hb10⟩
  have hb510 := hb59.trans (hb10.mono hb59.size)
  clear k0 y4 hb10 hb59
  go_wp2_with (fail)
  refine (HRCE.out w10 hb510).mono ?_; rintro r w11 ⟨vr, rfl, hor, hb11⟩
  obtain ⟨V, cv, rfl, _⟩ := OwnL.shape hor
  have hb511 := hb510.trans (hb11.mono hb510.size)
  have z511 := hb511.size
  have z510 := hb510.size
  have z11 := hb11.size
  have bB : Below w11.heap.size w11 (w11.alloc (.cells #[.slice V l.length cv] 35)) := Below.alloc (Below.refl _ _) (Nat.le_refl _) _
  have HRV : Hid (Row (w11.alloc (.cells #[.slice V l.length cv] 35)) w11.heap.size [.slice V l.length cv]) := Lib.hid (Row.alloc w11 _ _)
  have HOV := Lib.hid (OwnL.below hor bB)
  have HB12 := Lib.hid (hb511.trans (bB.mono z511))
  have zB : (w11.alloc (.cells #[.slice V l.length cv] 35)).heap.size = w11.heap.size + 1 := by simp
  rw [HML.out] at bB HRV HOV HB12 zB ⊢
  clear hor hb11 hb511 hb510 bB HCT HRCE HCERT
  have k0 := (HRC5.out.below HB12.out hle.2.2) 0 _ rfl
  have k1 := HRV.out 0 _ rfl
  have hne : gd + 1 ≠ w11.heap.size := by omega
  go_wp2_with (fail)
  generalize (w11.alloc (.cells #[.slice V M cv] 35)) = w12 at *
  clear k0 k1
  obtain ⟨gv, hgv⟩ : ∃ gv, w11.heap.size = gv := ⟨_, rfl⟩
  rw [hgv] at HRV zB ⊢
  clear hgv hne
  go_loopw [13] (fun ii wx => ∃ i : Nat, i ≤ M ∧ ii = .int .i64 i ∧ Below w12.heap.size w12 wx) (fun ii _ => M - (intOf ii).toNat)
  case atStart => exact ⟨0, by omega, rfl, Below.refl _ _⟩
  case round =>
    obtain ⟨i, hi, rfl, hb⟩ := hrel
    have hb5x := HB12.out.trans (hb.mono HB12.out.size)
    have HRCx := Lib.hid (HRC5.out.below hb5x hle.2.2)
    have k0 := HRCx.out 0 _ rfl
    by_cases hlt : i < M
    · have hii : (i : Int) < (M : Int) := by omega
      obtain ⟨s, hs⟩ : ∃ s, l[i]? = some s := ⟨l[i]'(by rw [HML.out]; exact hlt), List.getElem?_eq_getElem (by rw [HML.out]; exact hlt)⟩
      have HOx := Lib.hid (OwnL.below HOV.out hb)
      have HYx := Lib.hid (OwnL.below HYL.out hb5x)
      have hl0 : l ≠ [] := fun h0 => by rw [h0] at hs; cases hs
      obtain ⟨AV, cV, hvV, hAV⟩ := OwnL.shape HOx.out
      have hvV' : V = AV ∧ cv = cV := by injection hvV with e1 _ e2; exact ⟨e1, e2⟩
      obtain ⟨rfl, rfl⟩ := hvV'
      obtain ⟨gx, rfl, _, hgx⟩ := hAV.resolve_left hl0
      obtain ⟨AY, cY, hvY, hAY⟩ := OwnL.shape HYx.out
      have hvY' : Y = AY ∧ cy = cY := by injection hvY with e1 _ e2; exact ⟨e1, e2⟩
      obtain ⟨rfl, rfl⟩ := hvY'
      obtain ⟨gy, rfl, _, hgy⟩ := hAY.resolve_left hl0
      have hM' := HML.out
      have cel : ∀ (B g cc : Nat) (W : World), OwnL Src.cells 3 49 B W (.slice (some ⟨g, 0, none⟩) M cc) l → ∀ (j : Nat) (u : Value), s.cells[j]? = some u → W.cell? ⟨g, i * 3 + j, none⟩ = some u := fun B g cc W h j u hu => by
        rw [← hM'] at h; exact OwnL.cell Src.len h hs hu
      have p0 : ∀ x : Wb wr, x.1.cell? ⟨gx, i * 3, none⟩ = some (.int .i64 s.kind) := fun x => Wb.cell (cel _ _ _ _ HOx.out 0 _ rfl) x
      have p1 : ∀ x : Wb wr, x.1.cell? ⟨gx, i * 3 + 1, none⟩ = some (.int .i64 s.sector) := fun x => Wb.cell (cel _ _ _ _ HOx.out 1 _ rfl) x
      have p2 : ∀ x : Wb wr, x.1.cell? ⟨gx, i * 3 + 2, none⟩ = some (.int .i64 s.dump) := fun x => Wb.cell (cel _ _ _ _ HOx.out 2 _ rfl) x
      have r0 : ∀ x : Wb wr, x.1.cell? ⟨gy, i * 3, none⟩ = some (.int .i64 s.kind) := fun x => Wb.cell (cel _ _ _ _ HYx.out 0 _ rfl) x
      have r1 : ∀ x : Wb wr, x.1.cell? ⟨gy, i * 3 + 1, none⟩ = some (.int .i64 s.sector) := fun x => Wb.cell (cel _ _ _ _ HYx.out 1 _ rfl) x
      have r2 : ∀ x : Wb wr, x.1.cell? ⟨gy, i * 3 + 2, none⟩ = some (.int .i64 s.dump) := fun x => Wb.cell (cel _ _ _ _ HYx.out 2 _ rfl) x
      have t0 : ∀ x : Wb wr, x.1.cell? ⟨gv, 0, none⟩ = some (.slice (some ⟨gx, 0, none⟩) M cv) := fun x => Wb.cell ((HRV.out.below hb (by omega)) 0 _ rfl) x
      have t1 : ∀ x : Wb wr, x.1.cell? ⟨gd + 1, 0, none⟩ = some (.slice (some ⟨gy, 0, none⟩) M cy) := fun x => Wb.cell (HRCx.out 0 _ rfl) x
      clear cel hM' HOx HYx HRCx hs hl0 hvV hvY hAV hAY
      go_upto_region 19 with (fail)
      clear k0
      refine wp_region_wb (by kernel_rfl) (by kernel_rfl) ?_; (repeat (go_big_quiet_step (fail))); refine wpQuiet_nil ?_; rintro w7 ⟨⟨w7', hb7⟩, rfl⟩
      have hb67 := hb.trans (hb7.mono hb.size)
      clear p0 p1 p2 r0 r1 r2 t0 t1
      go_wp2_with (fail)
      go_roundw
      case rel => exact ⟨i + 1, by omega, by go_num, hb67⟩
      case measure => simp [intOf]; omega
    · obtain rfl : i = M := by omega
      go_wp2_with (fail)
      go_ret
      exact ⟨rfl, HB5.out.trans (hb5x.mono HB5.out.size)⟩
end Go.Proofs.YtddihmpiaemadaaGreatDoor
namespace Go.Proofs.YtddihmpiaemadaaGreatDoor
set_option linter.unusedVariables false
set_option linter.unusedSimpArgs false
open Go.ChangeShapes Go.WideShapes Go.ChangeAt Go.RowKit
open Go.Joins (open_agg2 open_agg3 open_agg4)

section
variable {H : Type} {enc : TypeId × Value → H} {W : World} {base : Nat} {v : Value} {d : DataW H} {p : List MemPlace}
end
end Go.Proofs.YtddihmpiaemadaaGreatDoor
namespace Go.Proofs.YtddihmpiaemadaaGreatDoor
set_option linter.unusedVariables false
set_option linter.unusedSimpArgs false
open Go.ChangeShapes Go.WideShapes Go.ChangeAt Go.RowKit
set_option maxRecDepth 20000

section
variable {H : Type} {enc : TypeId × Value → H} {W : World} {base : Nat} {v : Value} {d : DataW H} {p : List MemPlace} {fuel : Nat} {sp : Nat → Bool} {hd : Bool} {b0 : Nat} {cs : List Value} {x : DataW H × List MemPlace}
theorem wf_u8 {x : Int} (h : (Lit.int .u8 x).wf = true) : 0 ≤ x ∧ x ≤ 255 := by
  simp [Lit.wf, IntKind.signed, IntKind.bits] at h
  exact h
theorem c_Byte (h : DataW.trod enc Tryz.prog W b0 sp hd fuel 5 cs = some x) : ∃ e : Nat, cs = [.int .u8 (e : Int)] ∧ e < 256 := by
  obtain ⟨s, e0, _, w0⟩ := DataW.trod_int Tryz.underlying5 h
  have hb := wf_u8 w0
  refine ⟨s.toNat, ?_, by omega⟩
  rw [e0, show ((s.toNat : Nat) : Int) = s by omega]
theorem o_Bytes (e : Value.okWide Tryz.prog W .any base 22 v) (h : DataW.Trod enc Tryz.prog W 0 sp hd 22 v d p) : ∃ A n c, v = .slice A n c ∧ BytesIn W A n ∧ n ≤ maxLen := by
  obtain ⟨A, n, c, rfl⟩ := okWide_slice Tryz.underlying22 e
  obtain ⟨fuel, hf⟩ := h
  have hC : Tryz.prog.cellsOf 5 = 1 := by kernel_rfl
  refine ⟨A, n, c, rfl, ?_⟩
  rcases Go.Deep.open_slice Tryz.underlying22 hf with ⟨hcs, _⟩ | ⟨a, len, cap, m, k, D, Pl, hcs, hb, hl, hm, hmm, _, hx⟩
  · simp [Value.cells] at hcs
    obtain ⟨rfl, rfl, rfl⟩ := hcs
    exact ⟨.inl rfl, Nat.zero_le _⟩
  · simp [Value.cells] at hcs
    obtain ⟨rfl, rfl, rfl⟩ := hcs
    have hlm : n ≤ m := by rw [hmm]; split <;> omega
    refine ⟨?_, by omega⟩
    have hF : ∀ i, i < n → ∃ e : Nat, e < 256 ∧ W.cell? (a.add i) = some (.int .u8 (e : Int)) := fun i hi => by
      obtain ⟨cs, h1, h2⟩ := hx i (by omega)
      rw [hC] at h1
      obtain ⟨e, rfl, hv⟩ := c_Byte h2
      obtain ⟨_, _, h3⟩ := World.cells?_some h1
      refine ⟨e, hv, ?_⟩
      have := h3 0 (by omega)
      simpa [Go.Deep.add_add] using this
    rcases Nat.eq_zero_or_pos n with rfl | h0
    · exact .inl rfl
    · obtain ⟨b, o, spot⟩ := a
      obtain ⟨e0, _, hc0⟩ := hF 0 h0
      have hspot : spot = none := by simpa [Addr.add] using World.cell?_spot hc0
      subst hspot
      have hc00 := World.block_lt_of_cell? W _ hc0
      refine .inr ⟨b, o, rfl, by simpa [Addr.add] using hc00, fun j hj => ?_⟩
      obtain ⟨e, he, hc⟩ := hF j hj
      refine ⟨e, he, ?_⟩
      have e2 : (⟨b, o, none⟩ : Addr).add j = ⟨b, o + j, none⟩ := by unfold Addr.add; split <;> simp_all
      rw [e2] at hc
      exact hc
end
end Go.Proofs.YtddihmpiaemadaaGreatDoor
namespace Go.Proofs.YtddihmpiaemadaaGreatDoor
set_option linter.unusedVariables false
set_option linter.unusedSimpArgs false
open Go.RowKit
theorem int_of_shape {P : Program} {w : World} {g : Nat} {t : TypeId} {zero : Array Value} (h : w.ShapedOpen P) (hg : g < P.globals.size)
    (h0 : ((begin P (fun _ _ => 0) default).world.heap[g]?).bind Obj.row? = some (zero, t)) (hz : zero.size = 1)
    (hb : P.buildable t = true) (hc : P.cellTypes P.depth t = some [t]) (hu : P.underlying t = some (.int .i64)) : ∃ m, w.cell? ⟨g, 0, none⟩ = some (.int .i64 m) := by
  obtain ⟨cs, hh, hs, hr⟩ := h.1 g zero t hg h0
  obtain ⟨ts, hts, _, hall⟩ := hr hb
  rw [hc] at hts
  cases hts
  have h1 : 0 < cs.size := by omega
  obtain ⟨u, hu', hok⟩ := hall 0 cs[0] (by simp [h1])
  have : u = t := by simpa using hu'.symm
  subst this
  have hcell : w.cell? ⟨g, 0, none⟩ = some cs[0] := by simp [World.cell?, hh, h1]
  rw [hcell]
  unfold Cell.ok at hok
  rw [hu] at hok
  cases hv : cs[0] <;> rw [hv] at hok <;> simp at hok
  rename_i k n
  obtain ⟨rfl, _⟩ := hok
  exact ⟨_, rfl⟩
theorem maxl_shape {W : World} (h : W.ShapedOpen Tryz.prog) : ∃ m, W.cell? ⟨1, 0, none⟩ = some (.int .i64 m) :=
  int_of_shape (t := 3) (zero := #[.int .i64 0]) h (of_decide_eq_true (by kernel_rfl)) (by kernel_rfl) rfl (by kernel_rfl) (by kernel_rfl) Tryz.underlying3
theorem starE : "*" ++ "errors.errorString" = "*errors.errorString" := by decide
theorem rowE (u : TypeId) (h : Tryz.prog.typeName? 3 u = some "*errors.errorString") : u = 237 :=
  typeName_ptr_named (nm := "errors.errorString") (by rw [starE]; kernel_rfl) (by kernel_rfl) (by decide) u (by rw [starE]; exact h)
theorem sent_of {W : World} {n : String} {text : List UInt8} {r : List (String × DataW Unit)} {g : Nat} (h : laidMet Tryz.prog ((n, .iface "*errors.errorString" (.ptr (.agg [.lit (.string text)]))) :: r) W)
    (hg : Tryz.prog.globalNamed n = some g) (ht : (Tryz.prog.globals[g]?).map (·.type) = some 79) : ∃ ev, W.cell? ⟨g, 0, none⟩ = some ev ∧ (ev = .nilIface ∨ ∃ te pe, ev = .iface te pe) := by
  obtain ⟨a, s, hv, _⟩ := laid_sentinel h hg ht Tryz.underlying79 rowE Tryz.underlying237 Tryz.underlying239 rfl rfl Tryz.underlying9 (by kernel_rfl) (by kernel_rfl)
  exact ⟨_, by simpa using World.var?_cell hg hv 0, .inr ⟨_, _, rfl⟩⟩
end Go.Proofs.YtddihmpiaemadaaGreatDoor
namespace Go.Proofs.YtddihmpiaemadaaGreatDoor
set_option linter.unusedVariables false
set_option linter.unusedSimpArgs false
open Go.ChangeShapes Go.WideShapes
theorem cells_of_strs {H : Type} {enc : TypeId × Value → H} {P : Program} {w : World} {base : Nat} {sp : Nat → Bool} {held : Bool} {fuel : Nat} {t e : TypeId} {n : Nat} {cs : List Value} {p : List MemPlace} {bs : List (List UInt8)}
    (ht : P.underlying t = some (.array n e)) (he : P.underlying e = some .string) (hce : P.cellsOf e = 1) (hct : P.cellsOf t = n)
    (h : DataW.trod enc P w base sp held fuel t cs = some (.agg (bs.map fun b => .lit (.string b)), p)) : cs = bs.map fun b => Value.string ⟨b.toArray⟩ := by
  cases fuel with
  | zero => simp [DataW.trod] at h
  | succ fuel =>
    simp only [DataW.trod, ht, hce, hct, Nat.mul_one] at h
    split at h
    · rename_i hl
      obtain ⟨xs, hm, hx⟩ := Option.map_eq_some_iff.1 h
      have hxs : xs.map (·.1) = bs.map fun b => (DataW.lit (.string b) : DataW H) := by
        have := congrArg Prod.fst hx
        simpa using this
      have hxl : xs.length = n := by simpa using Lib.mapM_length hm
      have hzl : bs.length = n := by
        have := congrArg List.length hxs
        simp at this
        omega
      apply List.ext_getElem?
      intro i
      by_cases hi : i < n
      · obtain ⟨b, hb, hf⟩ := Lib.mapM_at hm i i (by simp [hi])
        obtain ⟨s, hc, rfl, _⟩ := DataW.trod_string he hf
        have h1 : cs[i]? = some (.string s) := by
          have := congrArg (·[0]?) hc
          simpa [List.getElem?_take, List.getElem?_drop] using this
        have h2 : (xs.map (·.1))[i]? = some (DataW.lit (.string s.data.toList) : DataW H) := by simp [hb]
        rw [hxs] at h2
        simp only [List.getElem?_map, Option.map_eq_some_iff, DataW.lit.injEq, Lit.string.injEq] at h2
        obtain ⟨z', hz', hz2⟩ := h2
        subst hz2
        rw [h1, List.getElem?_map, hz']
        simp
      · rw [List.getElem?_eq_none (by omega), List.getElem?_eq_none (by simp; omega)]
    · cases h
theorem strs_vars {P : Program} {W : World} {name : String} {bs : List (List UInt8)} {rest : List (String × DataW Unit)} {g : Nat} {t e : TypeId} {n : Nat} {ps : List MemPlace}
    (hg : P.globalNamed name = some g) (hty : (P.globals[g]?).map (·.type) = some t) (ht : P.underlying t = some (.array n e)) (he : P.underlying e = some .string) (hce : P.cellsOf e = 1) (hct : P.cellsOf t = n)
    (h : DataW.LaidVars P W ((name, .agg (bs.map fun b => .lit (.string b))) :: rest) ps) : W.var? P name = some (bs.map fun b => Value.string ⟨b.toArray⟩).toArray := by
  obtain ⟨g', t', cs, fuel, p, q, hg', ht', hvar, hd, _, _⟩ := h
  obtain rfl := Option.some.inj (hg.symm.trans hg')
  obtain rfl := Option.some.inj (hty.symm.trans ht')
  rw [hvar, ← cells_of_strs ht he hce hct hd]
end Go.Proofs.YtddihmpiaemadaaGreatDoor
namespace Go.Proofs.YtddihmpiaemadaaGreatDoor
namespace Rows

/-- THE TIED CARD OF 'laws.FnCertified'. -/
def fnCertifiedCard : Claim7 := { stood := { row := fnCertifiedRow, standIns := [], harness := (true, "5ebb7db0601bb67d8606feae691b90b534f561b8833552526d0b83948a661491"), looks := true }, kinds := [], alts := [], laidByText := true, laidKinds := [.data, .data, .data, .data, .sentinel, .sentinel, .widerDeep, .pinned], laidTests := true, laidLooks := .later }
def FnCertifiedCardSaid : Prop := Claim7.holds Tryz.pinned (.plain (OpenSpec.ofChange fnCertifiedSpec)) fnCertifiedCard

/-- THE SECOND FORM's CARD OF 'laws.FnCertified'. -/
def fnCertifiedUptoCard : Claim7 := { stood := { row := fnCertifiedUptoRow, standIns := [], harness := (true, "5ebb7db0601bb67d8606feae691b90b534f561b8833552526d0b83948a661491"), looks := true }, kinds := [], alts := [], laidByText := true, laidKinds := [.data, .data, .data, .data, .sentinel, .sentinel, .widerDeep, .pinned], laidTests := true, laidLooks := .later }
def FnCertifiedUptoCardSaid : Prop := Claim7.holds Tryz.pinned (.plain (OpenSpec.upto fnCertifiedSpec)) fnCertifiedUptoCard
end Rows
end Go.Proofs.YtddihmpiaemadaaGreatDoor
namespace Go.Proofs.YtddihmpiaemadaaGreatDoor
open Go
set_option maxRecDepth 100000
theorem seatTie1 : Tryz.prog.laidByTextLater [("math/bits.deBruijn32tab", Rows.laid_math_bits_deBruijn32tab), ("math/bits.deBruijn64tab", Rows.laid_math_bits_deBruijn64tab), ("internal/strconv.uint64pow10", Rows.laid_internal_strconv_uint64pow10), ("unicode/utf8.acceptRanges", Rows.laid_unicode_utf8_acceptRanges), ("strconv.ErrRange", Rows.laid_strconv_ErrRange), ("strconv.ErrSyntax", Rows.laid_strconv_ErrSyntax), ("loop.example/g00899/impl.sourceWords", Rows.laid_loop_example_g00899_impl_sourceWords)] [.data, .data, .data, .data, .sentinel, .sentinel, .widerDeep] true :=
  Program.laidByTextLater_by_one 77 8 65 (by kernel_rfl) (by kernel_rfl) (by kernel_rfl) (by kernel_rfl) (by kernel_rfl) (by kernel_rfl) (fun _ _ => by kernel_rfl)
theorem pin_laid_unicode_utf8_first : Tryz.pinned.checked.prog.pinnedFits "unicode/utf8.first" = true := by kernel_rfl
theorem noOwnUnsafe : Tryz.pinned.checked.prog.headLifts.contains "ownunsafe" = false := by kernel_rfl
theorem fits1 : Tryz.pinned.checked.prog.listedFits [("math/bits.deBruijn32tab", Rows.laid_math_bits_deBruijn32tab), ("math/bits.deBruijn64tab", Rows.laid_math_bits_deBruijn64tab), ("internal/strconv.uint64pow10", Rows.laid_internal_strconv_uint64pow10), ("unicode/utf8.acceptRanges", Rows.laid_unicode_utf8_acceptRanges), ("strconv.ErrRange", Rows.laid_strconv_ErrRange), ("strconv.ErrSyntax", Rows.laid_strconv_ErrSyntax), ("loop.example/g00899/impl.sourceWords", Rows.laid_loop_example_g00899_impl_sourceWords), ("unicode/utf8.first", Rows.laid_unicode_utf8_first)] = true := by
  unfold Program.listedFits
  rw [noOwnUnsafe]
  kernel_rfl
theorem tie : Tryz.prog.laidByTextLater [("math/bits.deBruijn32tab", Rows.laid_math_bits_deBruijn32tab), ("math/bits.deBruijn64tab", Rows.laid_math_bits_deBruijn64tab), ("internal/strconv.uint64pow10", Rows.laid_internal_strconv_uint64pow10), ("unicode/utf8.acceptRanges", Rows.laid_unicode_utf8_acceptRanges), ("strconv.ErrRange", Rows.laid_strconv_ErrRange), ("strconv.ErrSyntax", Rows.laid_strconv_ErrSyntax), ("loop.example/g00899/impl.sourceWords", Rows.laid_loop_example_g00899_impl_sourceWords)] [.data, .data, .data, .data, .sentinel, .sentinel, .widerDeep] true :=
  Program.laidByTextLater.sub seatTie1 ["math/bits.deBruijn32tab", "math/bits.deBruijn64tab", "internal/strconv.uint64pow10", "unicode/utf8.acceptRanges", "strconv.ErrRange", "strconv.ErrSyntax", "loop.example/g00899/impl.sourceWords"] (by kernel_rfl) (by kernel_rfl)
theorem fnCertified_row_tie : Rows.fnCertifiedRow.laidByTextAt .later Tryz.pinned [.data, .data, .data, .data, .sentinel, .sentinel, .widerDeep, .pinned] true :=
  OpenClaim.laidByTextAt_pinned rfl rfl tie rfl rfl rfl rfl (fun y hy _e => by
    simp only [Rows.fnCertifiedRow, List.zip_cons_cons, List.zip_nil_right, List.mem_cons, List.mem_nil_iff, or_false] at hy
    rcases hy with rfl | rfl | rfl | rfl | rfl | rfl | rfl | rfl
    · cases _e
    · cases _e
    · cases _e
    · cases _e
    · cases _e
    · cases _e
    · cases _e
    · exact ⟨pin_laid_unicode_utf8_first, by kernel_rfl⟩) fits1
end Go.Proofs.YtddihmpiaemadaaGreatDoor
