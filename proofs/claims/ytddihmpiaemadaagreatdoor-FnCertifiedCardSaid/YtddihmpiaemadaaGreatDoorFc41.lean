/- CheckSource, the implementation: the walk. CheckSource, the implementation: the walk. Parity of a certificate, the reference: the walk. A source checked, the reference: the walk. CheckSource, the reference: the walk. The laws over evidence, a disc and a certificate: shared parts. CheckCertificate, impl and spec: the walks. Numbers in words, a text that grows in a builder, and new lists of strings: what is of no function. Listed tables in later worlds; numbers in words, both sides' contracts ahead. The text of a certificate: the plain law. -/
import Derived.Test.YtddihmpiaemadaaGreatDoorFc40
import Derived.Test.YtddihmpiaemadaaGreatDoorFc19
import Derived.Test.YtddihmpiaemadaaGreatDoorFc25
import Derived.Test.YtddihmpiaemadaaGreatDoorFc20
import Derived.Test.YtddihmpiaemadaaGreatDoorFc02
import Derived.Test.YtddihmpiaemadaaGreatDoorFc38
import Derived.Test.YtddihmpiaemadaaGreatDoorFc03
import Derived.Lib.ItoaNum
import Derived.Lib.ItoaMem
import Derived.Lib.ItoaLen
import Derived.Lib.Builder
import Derived.Lib.OthersKept
import Derived.Lib.FrozenHead
import Derived.Lib.UnsafeStr
import Derived.Lib.Join
import Derived.Lib.LaidTab
namespace Go.Proofs.YtddihmpiaemadaaGreatDoor
set_option linter.unusedVariables false
set_option linter.unusedSimpArgs false
open Go.RowKit
set_option maxRecDepth 20000 in
set_option maxHeartbeats 8000000 in
theorem ask_i (B Bd Bc : Nat) (e : Evd) (va vb vc vd : Value) (d : Dsc) (x : Value) (l : List Src) (y : Value) (w : World) (h : EvOwn B w e va vb vc vd) (hs : EvSmall e) (hd : SecOwn Bd w x d.secs) (hn : d.secs.length ≤ 1048576) (hm : ∀ s ∈ d.secs, s.data.size ≤ maxLen) (hl : OwnL Src.cells 3 49 Bc w y l) (hll : l.length ≤ 1048576) :
    Calls Tryz.prog 25 #[evV va vb vc vd, dscV d x, .agg #[y]] w fun r w' => r = .returned (.bool (askB e d l)) ∧ Below w.heap.size w w' := by
  have H0 := Lib.hid h
  have HD0 := Lib.hid hd
  have HL0 := Lib.hid hl
  have hds := h.ds
  obtain ⟨A, n, B', kk, C, i, D, j, rfl, rfl, rfl, rfl⟩ := h.shape
  obtain ⟨X, c, rfl, _⟩ := OwnL.shape hd
  obtain ⟨A2, c2, rfl, _⟩ := OwnL.shape hl
  obtain ⟨RE, RD, RC, HBZ, zz⟩ := boxes3 w #[.slice A e.ds.length n, .slice B' e.cr.length kk, .slice C e.p.length i, .slice D e.q.length j] #[.int .i64 d.cyl, .int .i64 d.heads, .int .i64 d.per, .int .i64 d.size, .slice X d.secs.length c] #[.slice A2 l.length c2] 28 32 35
  have HV := Lib.hid (fun (q : Wb (((w.alloc (.cells #[.slice A e.ds.length n, .slice B' e.cr.length kk, .slice C e.p.length i, .slice D e.q.length j] 28)).alloc (.cells #[.int .i64 d.cyl, .int .i64 d.heads, .int .i64 d.per, .int .i64 d.size, .slice X d.secs.length c] 32)).alloc (.cells #[.slice A2 l.length c2] 35))) => ev_i B e _ _ _ _ q.1 (H0.out.below (HBZ.trans (q.2.mono (by rw [zz]; omega)))) hs)
  have HDK := Lib.hid (fun (q : Wb (((w.alloc (.cells #[.slice A e.ds.length n, .slice B' e.cr.length kk, .slice C e.p.length i, .slice D e.q.length j] 28)).alloc (.cells #[.int .i64 d.cyl, .int .i64 d.heads, .int .i64 d.per, .int .i64 d.size, .slice X d.secs.length c] 32)).alloc (.cells #[.slice A2 l.length c2] 35))) => disc_i Bd d (.slice X d.secs.length c) q.1 (OwnL.below HD0.out (HBZ.trans (q.2.mono (by rw [zz]; omega)))) hn hm)
  have HCK := Lib.hid (fun (q : Wb (((w.alloc (.cells #[.slice A e.ds.length n, .slice B' e.cr.length kk, .slice C e.p.length i, .slice D e.q.length j] 28)).alloc (.cells #[.int .i64 d.cyl, .int .i64 d.heads, .int .i64 d.per, .int .i64 d.size, .slice X d.secs.length c] 32)).alloc (.cells #[.slice A2 l.length c2] 35))) => cert_i Bc l (.slice A2 l.length c2) q.1 (OwnL.below HL0.out (HBZ.trans (q.2.mono (by rw [zz]; omega)))) hll)
  clear h hd hl
  go_enter Tryz.func25, Tryz.ntmps25
  go_wp2_with (fail)
  generalize (((w.alloc (.cells #[.slice A e.ds.length n, .slice B' e.cr.length kk, .slice C e.p.length i, .slice D e.q.length j] 28)).alloc (.cells #[.int .i64 d.cyl, .int .i64 d.heads, .int .i64 d.per, .int .i64 d.size, .slice X d.secs.length c] 32)).alloc (.cells #[.slice A2 l.length c2] 35)) = w3 at *
  have f0 : ∀ q : Wb w3, q.1.cell? ⟨w.heap.size, 0, none⟩ = _ := fun q => Wb.cell (RE 0 _ rfl) q
  have f1 : ∀ q : Wb w3, q.1.cell? ⟨w.heap.size, 1, none⟩ = _ := fun q => Wb.cell (RE 1 _ rfl) q
  have f2 : ∀ q : Wb w3, q.1.cell? ⟨w.heap.size, 2, none⟩ = _ := fun q => Wb.cell (RE 2 _ rfl) q
  have f3 : ∀ q : Wb w3, q.1.cell? ⟨w.heap.size, 3, none⟩ = _ := fun q => Wb.cell (RE 3 _ rfl) q
  have g0 : ∀ q : Wb w3, q.1.cell? ⟨w.heap.size + 1, 0, none⟩ = _ := fun q => Wb.cell (RD 0 _ rfl) q
  have g1 : ∀ q : Wb w3, q.1.cell? ⟨w.heap.size + 1, 1, none⟩ = _ := fun q => Wb.cell (RD 1 _ rfl) q
  have g2 : ∀ q : Wb w3, q.1.cell? ⟨w.heap.size + 1, 2, none⟩ = _ := fun q => Wb.cell (RD 2 _ rfl) q
  have g3 : ∀ q : Wb w3, q.1.cell? ⟨w.heap.size + 1, 3, none⟩ = _ := fun q => Wb.cell (RD 3 _ rfl) q
  have g4 : ∀ q : Wb w3, q.1.cell? ⟨w.heap.size + 1, 4, none⟩ = _ := fun q => Wb.cell (RD 4 _ rfl) q
  have k0 : ∀ q : Wb w3, q.1.cell? ⟨w.heap.size + 1 + 1, 0, none⟩ = _ := fun q => Wb.cell (RC 0 _ rfl) q
  clear RE RD RC
  have HAB : Hid (askB e d l = (evOk e && (discOk d && (certOk l && sameG d (e.ds.headD default))))) := Lib.hid rfl
  have HG : Hid (True) := Lib.hid trivial
  cases hev : evOk e
  · rw [hev] at HV HAB
    refine wp_region_wb (by kernel_rfl) (by kernel_rfl) ?_; (repeat (go_big_quiet_step (first | (go_at_call 17; exact Wb.calls (HV.out _)) | (go_at_call 20; exact Wb.calls (HDK.out _)) | (go_at_call 21; exact Wb.calls (HCK.out _)) | (go_at_call 58; exact Wb.calls (HG.out _))))); refine wpQuiet_nil ?_; rintro w5 ⟨⟨w5', hb5⟩, rfl⟩
    go_wp2_with (fail)
    go_ret
    exact ⟨ret_bool (by rw [HAB.out]; rfl), HBZ.trans (hb5.mono (by omega))⟩
  · obtain ⟨z, P, m, T, F⟩ := ev_f hev
    have hz : e.ds.headD default = z := by
      have := F.z0
      cases hd : e.ds with
      | nil => rw [hd] at this; cases this
      | cons a r => rw [hd] at this; simpa using this
    obtain ⟨A', c', e', hA'⟩ := hds
    injection e' with e1 _ e2
    subst e1 e2
    have hz0 := F.z0
    obtain ⟨gz, rfl, _, hgz, hcz⟩ := hA'.resolve_left (by intro h0; rw [h0] at hz0; simp at hz0)
    obtain ⟨bv, o1, o2⟩ := hcz 0 z hz0
    obtain ⟨A3, c3', rfl, _⟩ := OwnL.shape o1
    have y0 : ∀ q : Wb w3, q.1.cell? ⟨gz, 0, none⟩ = some (.int .i64 z.cyl) := fun q => Wb.cell ((HBZ.cell (p := ⟨gz, 0, none⟩) hgz).trans (by have := o2 0 _ rfl; simpa using this)) q
    have y1 : ∀ q : Wb w3, q.1.cell? ⟨gz, 1, none⟩ = some (.int .i64 z.heads) := fun q => Wb.cell ((HBZ.cell (p := ⟨gz, 1, none⟩) hgz).trans (by have := o2 1 _ rfl; simpa using this)) q
    have y2 : ∀ q : Wb w3, q.1.cell? ⟨gz, 2, none⟩ = some (.int .i64 z.per) := fun q => Wb.cell ((HBZ.cell (p := ⟨gz, 2, none⟩) hgz).trans (by have := o2 2 _ rfl; simpa using this)) q
    have y3 : ∀ q : Wb w3, q.1.cell? ⟨gz, 3, none⟩ = some (.int .i64 z.size) := fun q => Wb.cell ((HBZ.cell (p := ⟨gz, 3, none⟩) hgz).trans (by have := o2 3 _ rfl; simpa using this)) q
    have y4 : ∀ q : Wb w3, q.1.cell? ⟨gz, 4, none⟩ = some (.slice A3 z.secs.length c3') := fun q => Wb.cell ((HBZ.cell (p := ⟨gz, 4, none⟩) hgz).trans (by have := o2 4 _ rfl; simpa using this)) q
    have hdl1 : (0 : Int) < (e.ds.length : Int) := by have := F.d1; omega
    have hdl2 : 0 < e.ds.length := F.d1
    clear HG
    have HG := Lib.hid (fun (q : Wb w3) => same_i d z X A3 d.secs.length c z.secs.length c3' q.1)
    rw [hev] at HV HAB
    rw [hz] at HAB
    clear hz o1 o2 hcz hA' hz0
    cases hdk : discOk d
    · rw [hdk] at HDK HAB
      refine wp_region_wb (by kernel_rfl) (by kernel_rfl) ?_; (repeat (go_big_quiet_step (first | (go_at_call 17; exact Wb.calls (HV.out _)) | (go_at_call 20; exact Wb.calls (HDK.out _)) | (go_at_call 21; exact Wb.calls (HCK.out _)) | (go_at_call 58; exact Wb.calls (HG.out _))))); refine wpQuiet_nil ?_; rintro w5 ⟨⟨w5', hb5⟩, rfl⟩
      go_wp2_with (fail)
      go_ret
      exact ⟨ret_bool (by rw [HAB.out]; rfl), HBZ.trans (hb5.mono (by omega))⟩
    · rw [hdk] at HDK HAB
      cases hck : certOk l
      · rw [hck] at HCK HAB
        refine wp_region_wb (by kernel_rfl) (by kernel_rfl) ?_; (repeat (go_big_quiet_step (first | (go_at_call 17; exact Wb.calls (HV.out _)) | (go_at_call 20; exact Wb.calls (HDK.out _)) | (go_at_call 21; exact Wb.calls (HCK.out _)) | (go_at_call 58; exact Wb.calls (HG.out _))))); refine wpQuiet_nil ?_; rintro w5 ⟨⟨w5', hb5⟩, rfl⟩
        go_wp2_with (fail)
        go_ret
        exact ⟨ret_bool (by rw [HAB.out]; rfl), HBZ.trans (hb5.mono (by omega))⟩
      · rw [hck] at HCK HAB
        cases hsg : sameG d z
        all_goals
          rw [hsg] at HG HAB
          refine wp_region_wb (by kernel_rfl) (by kernel_rfl) ?_; (repeat (go_big_quiet_step (first | (go_at_call 17; exact Wb.calls (HV.out _)) | (go_at_call 20; exact Wb.calls (HDK.out _)) | (go_at_call 21; exact Wb.calls (HCK.out _)) | (go_at_call 58; exact Wb.calls (HG.out _))))); refine wpQuiet_nil ?_; rintro w5 ⟨⟨w5', hb5⟩, rfl⟩
          go_wp2_with (fail)
          go_ret
          exact ⟨ret_bool (by rw [HAB.out]; rfl), HBZ.trans (hb5.mono (by omega))⟩
end Go.Proofs.YtddihmpiaemadaaGreatDoor
namespace Go.Proofs.YtddihmpiaemadaaGreatDoor
set_option linter.unusedVariables false
set_option linter.unusedSimpArgs false
open Go.RowKit
end Go.Proofs.YtddihmpiaemadaaGreatDoor
namespace Go.Proofs.YtddihmpiaemadaaGreatDoor
set_option linter.unusedVariables false
set_option linter.unusedSimpArgs false
open Go.RowKit
end Go.Proofs.YtddihmpiaemadaaGreatDoor
namespace Go.Proofs.YtddihmpiaemadaaGreatDoor
set_option linter.unusedVariables false
set_option linter.unusedSimpArgs false
open Go.RowKit
end Go.Proofs.YtddihmpiaemadaaGreatDoor
namespace Go.Proofs.YtddihmpiaemadaaGreatDoor
set_option linter.unusedVariables false
set_option linter.unusedSimpArgs false
open Go.RowKit
end Go.Proofs.YtddihmpiaemadaaGreatDoor
namespace Go.Proofs.YtddihmpiaemadaaGreatDoor
set_option linter.unusedVariables false
set_option linter.unusedSimpArgs false
open Go.RowKit
abbrev Four (a b c d : Value) (g : Nat) (w : World) : Prop := w.cell? ⟨g, 0, none⟩ = some a ∧ w.cell? ⟨g, 1, none⟩ = some b ∧ w.cell? ⟨g, 2, none⟩ = some c ∧ w.cell? ⟨g, 3, none⟩ = some d
theorem Row.four {w : World} {g : Nat} {a b c d : Value} (h : Row w g [a, b, c, d]) : Four a b c d g w := ⟨h 0 _ rfl, h 1 _ rfl, h 2 _ rfl, h 3 _ rfl⟩
theorem Row.one {w : World} {b : Nat} {v : Value} (h : Row w b [v]) : w.cell? ⟨b, 0, none⟩ = some v := h 0 _ rfl
end Go.Proofs.YtddihmpiaemadaaGreatDoor
namespace Go.Proofs.YtddihmpiaemadaaGreatDoor
set_option linter.unusedVariables false
set_option linter.unusedSimpArgs false
open Go.RowKit
set_option maxRecDepth 20000 in
set_option maxHeartbeats 8000000 in
theorem crt_i (B Bd Bc : Nat) (e : Evd) (va vb vc vd : Value) (d : Dsc) (x : Value) (l : List Src) (y : Value) (w : World) (h : EvOwn B w e va vb vc vd) (hs : EvSmall e) (hd : SecOwn Bd w x d.secs) (hn : d.secs.length ≤ 1048576) (hm : ∀ s ∈ d.secs, s.data.size ≤ maxLen) (hl : OwnL Src.cells 3 49 Bc w y l) (hll : l.length ≤ 1048576) :
    Calls Tryz.prog 12 #[evV va vb vc vd, dscV d x, .agg #[y]] w fun r w' => r = .returned (.bool (chkC e d l)) ∧ Below w.heap.size w w' := by
  have H0 := Lib.hid h
  have HD0 := Lib.hid hd
  have HL0 := Lib.hid hl
  obtain ⟨A, n, B', kk, C, i, D, j, rfl, rfl, rfl, rfl⟩ := h.shape
  obtain ⟨X, c, rfl, hX⟩ := OwnL.shape hd
  obtain ⟨A2, c2, rfl, hA2⟩ := OwnL.shape hl
  obtain ⟨RE, RD, RC, HBZ, zz⟩ := boxes3 w #[.slice A e.ds.length n, .slice B' e.cr.length kk, .slice C e.p.length i, .slice D e.q.length j] #[.int .i64 d.cyl, .int .i64 d.heads, .int .i64 d.per, .int .i64 d.size, .slice X d.secs.length c] #[.slice A2 l.length c2] 28 32 35
  have HCW : Hid (∀ w', Below ((((w.alloc (.cells #[.slice A e.ds.length n, .slice B' e.cr.length kk, .slice C e.p.length i, .slice D e.q.length j] 28)).alloc (.cells #[.int .i64 d.cyl, .int .i64 d.heads, .int .i64 d.per, .int .i64 d.size, .slice X d.secs.length c] 32)).alloc (.cells #[.slice A2 l.length c2] 35))).heap.size (((w.alloc (.cells #[.slice A e.ds.length n, .slice B' e.cr.length kk, .slice C e.p.length i, .slice D e.q.length j] 28)).alloc (.cells #[.int .i64 d.cyl, .int .i64 d.heads, .int .i64 d.per, .int .i64 d.size, .slice X d.secs.length c] 32)).alloc (.cells #[.slice A2 l.length c2] 35)) w' → Row w' w.heap.size [.slice A e.ds.length n, .slice B' e.cr.length kk, .slice C e.p.length i, .slice D e.q.length j] ∧ Row w' (w.heap.size + 1) (dscL d (.slice X d.secs.length c)) ∧ w'.cell? ⟨w.heap.size + 1 + 1, 0, none⟩ = some (.slice A2 l.length c2) ∧ EvOwn B w' e (.slice A e.ds.length n) (.slice B' e.cr.length kk) (.slice C e.p.length i) (.slice D e.q.length j) ∧ SecOwn Bd w' (.slice X d.secs.length c) d.secs ∧ OwnL Src.cells 3 49 Bc w' (.slice A2 l.length c2) l ∧ Below w.heap.size w w') := Lib.hid fun w' hb => by
    have hbw := HBZ.trans (hb.mono (by rw [zz]; omega))
    exact ⟨RE.below hb (by rw [zz]; omega), RD.below hb (by rw [zz]; omega), (RC.below hb (by rw [zz]; omega)) 0 _ rfl, H0.out.below hbw, OwnL.below HD0.out hbw, OwnL.below HL0.out hbw, hbw⟩
  have HV := Lib.hid (ask_i B Bd Bc e _ _ _ _ d (.slice X d.secs.length c) l (.slice A2 l.length c2) (((w.alloc (.cells #[.slice A e.ds.length n, .slice B' e.cr.length kk, .slice C e.p.length i, .slice D e.q.length j] 28)).alloc (.cells #[.int .i64 d.cyl, .int .i64 d.heads, .int .i64 d.per, .int .i64 d.size, .slice X d.secs.length c] 32)).alloc (.cells #[.slice A2 l.length c2] 35)) (H0.out.below HBZ) hs (OwnL.below HD0.out HBZ) hn hm (OwnL.below HL0.out HBZ) hll)
  clear h hd hl RE RD RC
  go_enter Tryz.func12, Tryz.ntmps12
  go_wp2_with (fail)
  generalize (((w.alloc (.cells #[.slice A e.ds.length n, .slice B' e.cr.length kk, .slice C e.p.length i, .slice D e.q.length j] 28)).alloc (.cells #[.int .i64 d.cyl, .int .i64 d.heads, .int .i64 d.per, .int .i64 d.size, .slice X d.secs.length c] 32)).alloc (.cells #[.slice A2 l.length c2] 35)) = w3 at *
  cases hab : askB e d l
  · have HF := Lib.hid (ck_no1 hab)
    rw [hab] at HV
    refine HV.out.mono ?_; rintro r w4 ⟨rfl, hb4⟩
    go_wp2_with (fail)
    go_ret
    exact ⟨ret_bool HF.out.symm, HBZ.trans (hb4.mono (by omega))⟩
  · obtain ⟨P, m, T, F⟩ := ask_f hab
    rw [hab] at HV
    have hTP : 1 ≤ T * P := by obtain ⟨z, E⟩ := F.ev; exact Nat.mul_le_mul E.t1 E.p1
    have hdn := F.secs
    obtain ⟨g, rfl, _, hg⟩ := hX.resolve_left (by intro e; rw [e] at hdn; simp at hdn; omega)
    have HSC := Lib.hid (fun (k : Nat) (s : Sec) (hk : d.secs[k]? = some s) => And.intro (OwnL.cell Sec.len HD0.out hk (j := 0) rfl) (OwnL.cell Sec.len HD0.out hk (j := 1) rfl))
    have HLC := Lib.hid (fun (g : Nat) (hg : A2 = some ⟨g, 0, none⟩) (k : Nat) (s : Src) (j : Nat) (u : Value) (hk : l[k]? = some s) (hu : s.cells[j]? = some u) => (by subst hg; exact OwnL.cell Src.len HL0.out hk hu : w.cell? ⟨g, k * 3 + j, none⟩ = some u))
    have HYES := Lib.hid (fun h1 h2 => ck_yes (e := e) (d := d) (l := l) hab h1 h2)
    clear hdn hX
    refine HV.out.mono ?_; rintro r w4 ⟨rfl, hb4⟩
    obtain ⟨_, E2, _, _, _, _, E7⟩ := HCW.out w4 hb4
    have d4 := E2 4 _ rfl
    clear E2 E7
    go_wp2_with (fail)
    go_loopw [20] (fun ii wr => ∃ k : Nat, k ≤ d.secs.length ∧ ii = .int .i64 k ∧ Below w3.heap.size w3 wr ∧ Hid (∀ j, j < k → covB d l j = true)) (fun ii _ => d.secs.length - (intOf ii).toNat)
    case atStart => exact ⟨0, by omega, rfl, hb4, Lib.hid fun j hj => by omega⟩
    case round =>
      clear d4
      obtain ⟨k, hk, rfl, hb, HM⟩ := hrel
      have zr := hb.size
      obtain ⟨E1, E2, E3, E4, E5, E6, E7⟩ := HCW.out wr hb
      by_cases hlt : k < d.secs.length
      · obtain ⟨s, hsk⟩ : ∃ s, d.secs[k]? = some s := ⟨d.secs[k], List.getElem?_eq_getElem hlt⟩
        obtain ⟨x0, x1⟩ := HSC.out k s hsk
        have y0 := (E7.cell (p := ⟨g, _, none⟩) hg).trans x0
        have y1 := (E7.cell (p := ⟨g, _, none⟩) hg).trans x1
        rw [Nat.add_zero] at y0
        have BS : Below wr.heap.size wr (wr.alloc (.cells #[.string s.data, .int .i64 s.state] 56)) := Below.alloc (Below.refl _ _) (Nat.le_refl _) _
        have RS := Row.alloc wr #[.string s.data, .int .i64 s.state] 56
        have zs : (wr.alloc (.cells #[.string s.data, .int .i64 s.state] 56)).heap.size = wr.heap.size + 1 := by simp
        have hbs := hb.trans (BS.mono zr)
        have HKD := Lib.hid (kind_i Bc l (.slice A2 l.length c2) (k : Int) _ (OwnL.below E6 BS) hll)
        have k0 := (BS.cell (p := ⟨w.heap.size + 1 + 1, 0, none⟩) (World.block_lt_of_cell? wr _ E3)).trans E3
        have HCV := Lib.hid (cov_at (l := l) hsk)
        have HBAD := Lib.hid (fun hh => ck_no2 (e := e) (l := l) hlt hh)
        clear E1 E2 E3 E4 E5 E6 E7 x0 x1 hsk
        go_wp2_with (fail)
        generalize (wr.alloc (.cells #[.string s.data, .int .i64 s.state] 56)) = w5 at *
        generalize kinN (k : Int) l = kd at *
        refine HKD.out.mono ?_; rintro r w6 ⟨rfl, hb6⟩
        have R6 := RS.below hb6 (by omega)
        have t1 : w6.cell? ⟨wr.heap.size, 1, none⟩ = some (.int .i64 s.state) := R6 1 _ rfl
        have hb36 := hbs.trans (hb6.mono (by omega))
        obtain ⟨_, E2, _, _, _, _, E7⟩ := HCW.out w6 hb36
        have BW6 := E7
        clear E2 E7 y0 y1 k0 HKD R6 RS
        have hst : s.state = 1 ∨ s.state = 3 ∨ (s.state ≠ 1 ∧ s.state ≠ 3) := by omega
        cases h0 : (kd != 0)
        · rcases hst with h1 | h1 | ⟨h1, h3⟩
          · have hx1 : (s.state != 1) = false := by rw [h1]; rfl
            have hx2 : (s.state == 1) = true := by rw [h1]; rfl
            have HF := Lib.hid (HBAD.out (by rw [HCV.out]; unfold cvS; rw [h0, hx2]; simp))
            clear h1
            go_wp2_with (fail)
            go_ret
            exact ⟨ret_bool HF.out.symm, BW6⟩
          · have hx1 : (s.state != 1) = true := by rw [h1]; rfl
            have hx2 : (s.state == 1) = false := by rw [h1]; rfl
            have hx3 : (s.state != 3) = false := by rw [h1]; rfl
            have HN : Hid (∀ j, j < k + 1 → covB d l j = true) := Lib.hid fun j hj => by
              by_cases e : j = k
              · subst e; rw [HCV.out]; unfold cvS; rw [h0, h1]; rfl
              · exact HM.out j (by omega)
            clear h1
            go_wp2_with (fail)
            go_roundw
            case rel => exact ⟨k + 1, by omega, by go_num, hb36, HN⟩
            case measure => simp [intOf]; omega
          · have hx1 : (s.state != 1) = true := by simpa using h1
            have hx3 : (s.state != 3) = true := by simpa using h3
            have HF := Lib.hid (HBAD.out (by rw [HCV.out]; unfold cvS; rw [beq_eq_false_iff_ne.2 h1, beq_eq_false_iff_ne.2 h3]; rfl))
            clear h1 h3
            go_wp2_with (fail)
            go_ret
            exact ⟨ret_bool HF.out.symm, BW6⟩
        · rcases hst with h1 | h1 | ⟨h1, h3⟩
          · have hx1 : (s.state != 1) = false := by rw [h1]; rfl
            have hx2 : (s.state == 1) = true := by rw [h1]; rfl
            have HN : Hid (∀ j, j < k + 1 → covB d l j = true) := Lib.hid fun j hj => by
              by_cases e : j = k
              · subst e; rw [HCV.out]; unfold cvS; rw [h0, h1]; rfl
              · exact HM.out j (by omega)
            clear h1
            go_wp2_with (fail)
            go_roundw
            case rel => exact ⟨k + 1, by omega, by go_num, hb36, HN⟩
            case measure => simp [intOf]; omega
          · have hx1 : (s.state != 1) = true := by rw [h1]; rfl
            have hx2 : (s.state == 1) = false := by rw [h1]; rfl
            have hx3 : (s.state != 3) = false := by rw [h1]; rfl
            have HF := Lib.hid (HBAD.out (by rw [HCV.out]; unfold cvS; rw [h0, hx2]; simp))
            clear h1
            go_wp2_with (fail)
            go_ret
            exact ⟨ret_bool HF.out.symm, BW6⟩
          · have hx1 : (s.state != 1) = true := by simpa using h1
            have hx3 : (s.state != 3) = true := by simpa using h3
            have HF := Lib.hid (HBAD.out (by rw [HCV.out]; unfold cvS; rw [beq_eq_false_iff_ne.2 h1, beq_eq_false_iff_ne.2 h3]; rfl))
            clear h1 h3
            go_wp2_with (fail)
            go_ret
            exact ⟨ret_bool HF.out.symm, BW6⟩
      · have HCV := Lib.hid (fun j (hj : j < d.secs.length) => HM.out j (by omega))
        have k0 := E3
        clear E1 E2 E3 E4 E5 E6 E7
        go_wp2_with (fail)
        go_loopw [48] (fun ii wx => ∃ q : Nat, q ≤ l.length ∧ ii = .int .i64 q ∧ Below w3.heap.size w3 wx ∧ Hid (∀ (j : Nat) (s : Src), j < q → l[j]? = some s → srcC e d l s = true)) (fun ii _ => l.length - (intOf ii).toNat)
        case atStart => exact ⟨0, by omega, rfl, hb, Lib.hid fun j s hj => by omega⟩
        case round =>
          clear k0
          obtain ⟨q, hq, rfl, hbx, HS⟩ := hrel
          have zx := hbx.size
          obtain ⟨E1, E2, E3, E4, E5, E6, E7⟩ := HCW.out wr hbx
          by_cases hltq : q < l.length
          · obtain ⟨s, hsq⟩ : ∃ s, l[q]? = some s := ⟨l[q], List.getElem?_eq_getElem hltq⟩
            obtain ⟨ga, rfl, _, hga⟩ := hA2.resolve_left (by intro h0; rw [h0] at hltq; simp at hltq)
            have y0 := (E7.cell (p := ⟨ga, _, none⟩) hga).trans (HLC.out ga rfl q s 0 _ hsq rfl)
            have y1 := (E7.cell (p := ⟨ga, _, none⟩) hga).trans (HLC.out ga rfl q s 1 _ hsq rfl)
            have y2 := (E7.cell (p := ⟨ga, _, none⟩) hga).trans (HLC.out ga rfl q s 2 _ hsq rfl)
            rw [Nat.add_zero] at y0
            have BS : Below wr.heap.size wr (wr.alloc (.cells #[.int .i64 s.kind, .int .i64 s.sector, .int .i64 s.dump] 49)) := Below.alloc (Below.refl _ _) (Nat.le_refl _) _
            have hbs := hbx.trans (BS.mono zx)
            obtain ⟨G1, G2, G3, G4, G5, G6, G7⟩ := HCW.out _ hbs
            have HSI := Lib.hid (src_i B Bd Bc e _ _ _ _ d (.slice (some ⟨g, 0, none⟩) d.secs.length c) l (.slice (some ⟨ga, 0, none⟩) l.length c2) s q P m T _ hsq F G4 G5 G6 hll)
            have c0 := G1 0 _ rfl
            have c1 := G1 1 _ rfl
            have c2' := G1 2 _ rfl
            have c3 := G1 3 _ rfl
            have e0 := G2 0 _ rfl
            have e1 := G2 1 _ rfl
            have e2 := G2 2 _ rfl
            have e3 := G2 3 _ rfl
            have e4 := G2 4 _ rfl
            have HBAD := Lib.hid (fun hh => ck_no3 (e := e) (d := d) (List.mem_of_getElem? hsq) hh)
            have HSQ := Lib.hid hsq
            clear E1 E2 E3 E4 E5 E6 E7 G1 G2 G4 G5 G6 hsq
            cases hsc : srcC e d l s
            · have HF := Lib.hid (HBAD.out hsc)
              rw [hsc] at HSI
              go_wp2_with (fail)
              refine HSI.out.mono ?_; rintro r w6 ⟨rfl, hb6⟩
              go_wp2_with (fail)
              go_ret
              exact ⟨ret_bool HF.out.symm, G7.trans (hb6.mono G7.size)⟩
            · have HN : Hid (∀ (j : Nat) (s : Src), j < q + 1 → l[j]? = some s → srcC e d l s = true) := Lib.hid fun j t hj ht => by
                by_cases e : j = q
                · subst e
                  have := HSQ.out
                  rw [ht] at this
                  obtain rfl := Option.some.inj this
                  exact hsc
                · exact HS.out j t (by omega) ht
              rw [hsc] at HSI
              go_wp2_with (fail)
              refine HSI.out.mono ?_; rintro r w6 ⟨rfl, hb6⟩
              go_wp2_with (fail)
              go_roundw
              case rel => exact ⟨q + 1, by omega, by go_num, hbs.trans (hb6.mono hbs.size), HN⟩
              case measure => simp [intOf]; omega
          · have HF := Lib.hid (HYES.out HCV.out (fun j s hs => HS.out j s (by have := (List.getElem?_eq_some_iff.1 hs).1; omega) hs))
            clear E1 E2 E3 E4 E5 E6
            go_wp2_with (fail)
            go_ret
            exact ⟨ret_bool HF.out.symm, E7⟩
end Go.Proofs.YtddihmpiaemadaaGreatDoor
namespace Go.Proofs.YtddihmpiaemadaaGreatDoor
set_option linter.unusedVariables false
set_option linter.unusedSimpArgs false
open Go.RowKit
def strB (l : List UInt8) : ByteArray := ⟨l.toArray⟩
theorem ret_str {a b : ByteArray} (h : a = b) : Ending.returned (.string a) = .returned (.string b) := by rw [h]
theorem strB_data (s : ByteArray) : strB s.data.toList = s := by
  apply ByteArray.ext
  simp [strB]
theorem strB_size (l : List UInt8) : (strB l).size = l.length := by simp [strB, ByteArray.size]
theorem strB_list (l : List UInt8) : (strB l).data.toList = l := by simp [strB]
theorem IsBuilder.keep {T e : TypeId} {B b : Nat} {bs : List Value} {w w' : World} (h : Lib.IsBuilder T e B b bs w) (hb : Below w.heap.size w w') : Lib.IsBuilder T e B b bs w' := by
  have one : ∀ p, Lib.BuilderAt T e B b p bs w → Lib.BuilderAt T e B b p bs w' := fun p h => by
    have hlt := h.lt
    obtain ⟨h1, v, h2, h3, h4⟩ := h
    refine ⟨h1, v, (hb.block b hlt).trans h2, h3.kept (grown_of_below hb none) (by cases v.ownBlock <;> simp), h4⟩
  exact h.elim (fun x => .inl (one _ x)) (fun x => .inr (one _ x))
theorem IsBuilderF.keep {T e : TypeId} {B b : Nat} {bs : List Value} {w w' : World} (h : Lib.IsBuilderF T e B b bs w) (hb : Below w.heap.size w w') : Lib.IsBuilderF T e B b bs w' := by
  have one : ∀ p, Lib.BuilderAtF T e B b p bs w → Lib.BuilderAtF T e B b p bs w' := fun p h => by
    have hlt := h.lt
    obtain ⟨h1, v, h2, h3, h4⟩ := h
    refine ⟨h1, v, (hb.block b hlt).trans h2, h3.kept (grown_of_below hb none) (by cases v.ownBlock <;> simp), h4⟩
  exact h.elim (fun x => .inl (one _ x)) (fun x => .inr (one _ x))
theorem others_cell {e t : TypeId} {b g : Nat} {cs : Array Value} {fz : Nat × Nat} {w w' : World} (h : Lib.OthersKept e (some b) w w') (hg : w.heap[g]? = some (.cells cs t fz)) (hne : g ≠ b) (ht : t ≠ e) : w'.heap[g]? = some (.cells cs t fz) :=
  h g _ hg (by intro e; injection e with e; exact hne e) (by intro c f e; injection e with _ e2 _; exact ht e2)
end Go.Proofs.YtddihmpiaemadaaGreatDoor
namespace Go.Proofs.YtddihmpiaemadaaGreatDoor
set_option linter.unusedVariables false
set_option linter.unusedSimpArgs false
open Go.RowKit
/-- the library's table of powers of ten holds what its text lays -/
def Pow (w : World) : Prop := Lib.TabIs Tryz.prog w "internal/strconv.uint64pow10" .u64 Lib.pow10Tab
theorem pow_g : ∃ g : Nat, Tryz.prog.globalNamed "internal/strconv.uint64pow10" = some g := ⟨2, by kernel_rfl⟩
theorem var_below {w w' : World} {n : String} {g : Nat} {cs : Array Value} (hg : Tryz.prog.globalNamed n = some g) (hlt : g < w.heap.size) (h : w.var? Tryz.prog n = some cs) (hb : Below w.heap.size w w') : w'.var? Tryz.prog n = some cs := by
  unfold World.var? at h ⊢
  simp only [hg, Option.bind_some] at h ⊢
  rw [hb.block g hlt]
  exact h
theorem Pow.below {w w' : World} (h : Pow w) (hb : Below w.heap.size w w') : Pow w' := by
  obtain ⟨g, hg⟩ : ∃ g : Nat, Tryz.prog.globalNamed "internal/strconv.uint64pow10" = some g := pow_g
  have hc : w.cell? ⟨g, 0, none⟩ = some (.int .u64 (Lib.pow10Tab.getD 0 0)) := Lib.TabIs.cell (W := w) h hg 0 (by decide)
  exact var_below hg (World.block_lt_of_cell? w _ hc) h hb
end Go.Proofs.YtddihmpiaemadaaGreatDoor
namespace Go.Proofs.YtddihmpiaemadaaGreatDoor
set_option linter.unusedVariables false
set_option linter.unusedSimpArgs false
open Go.RowKit
def wordL : Nat → List UInt8
  | 1 => [100, 117, 109, 112]
  | 2 => [118, 111, 116, 101]
  | 3 => [115, 111, 108, 118, 101]
  | 4 => [112, 97, 114, 105, 116, 121]
  | _ => []
/-- the words of the kinds, as the program's text lays them -/
def Wrd (w : World) : Prop := w.var? Tryz.prog "loop.example/g00899/impl.sourceWords" = some #[.string (strB (wordL 0)), .string (strB (wordL 1)), .string (strB (wordL 2)), .string (strB (wordL 3)), .string (strB (wordL 4))]
theorem wrd_g : Tryz.prog.globalNamed "loop.example/g00899/impl.sourceWords" = some 0 := by kernel_rfl
theorem Wrd.cell {w : World} (h : Wrd w) {k : Nat} (hk : k < 5) : w.cell? ⟨0, k, none⟩ = some (.string (strB (wordL k))) := by
  rw [World.var?_cell wrd_g h k]
  match k, hk with
  | 0, _ => rfl
  | 1, _ => rfl
  | 2, _ => rfl
  | 3, _ => rfl
  | 4, _ => rfl
theorem Wrd.below {w w' : World} (h : Wrd w) (hb : Below w.heap.size w w') : Wrd w' :=
  var_below wrd_g (World.block_lt_of_cell? w _ (Wrd.cell h (k := 0) (by decide))) h hb
def srcT (s : Src) : List UInt8 := wordL s.kind.toNat ++ (32 :: Lib.itoa s.sector) ++ (if s.kind = 1 then 32 :: Lib.itoa s.dump else []) ++ [10]
def cerT (l : List Src) : List UInt8 := (l.map srcT).flatten
def cerS (l : List Src) : ByteArray := if certOk l then strB (cerT l) else .empty
theorem cerS_no {l : List Src} (h : certOk l = false) : cerS l = .empty := by unfold cerS; rw [h]; rfl
theorem cerS_yes {l : List Src} (h : certOk l = true) : cerS l = strB (cerT l) := by unfold cerS; rw [h]; rfl
theorem cerT_next {l : List Src} {k : Nat} {e : Src} {acc X : List UInt8} (he : l[k]? = some e) (H : Hid (X = acc ++ cerT (l.drop k))) : Hid (X = (acc ++ srcT e) ++ cerT (l.drop (k + 1))) := by
  obtain ⟨hk, rfl⟩ := List.getElem?_eq_some_iff.1 he
  exact Lib.hid (by rw [H.out, List.drop_eq_getElem_cons hk, cerT, List.map_cons, List.flatten_cons, List.append_assoc]; rfl)
theorem cerT_end {l : List Src} {k : Nat} {acc X : List UInt8} (hk : l.length ≤ k) (H : Hid (X = acc ++ cerT (l.drop k))) : X = acc := by
  rw [H.out, List.drop_of_length_le hk, cerT]; simp
theorem cer_all {l : List Src} : ∀ {last : Int}, certFrom last l = true → (∀ e ∈ l, (1 ≤ e.kind ∧ e.kind ≤ 4) ∧ (last + 1 ≤ e.sector ∧ e.sector ≤ 127) ∧ (0 ≤ e.dump ∧ e.dump ≤ 4)) ∧ (l ≠ [] → last + l.length ≤ 127) := by
  induction l with
  | nil => intro last _; exact ⟨fun e he => (by cases he), fun h => absurd rfl h⟩
  | cons a r ih =>
    intro last h
    rw [certFrom, Bool.and_eq_true] at h
    obtain ⟨h1, h2, h3, _⟩ := srcOk_iff.1 h.1
    obtain ⟨i1, i2⟩ := ih h.2
    refine ⟨fun e he => ?_, fun _ => ?_⟩
    · rcases List.mem_cons.1 he with rfl | he
      · exact ⟨h1, h2, h3⟩
      · obtain ⟨j1, j2, j3⟩ := i1 e he
        exact ⟨j1, by omega, j3⟩
    · by_cases hr : r = []
      · subst hr; simp; omega
      · have := i2 hr; simp only [List.length_cons]; omega
theorem cer_ent {l : List Src} (h : certOk l = true) {e : Src} (he : e ∈ l) : (1 ≤ e.kind ∧ e.kind ≤ 4) ∧ (0 ≤ e.sector ∧ e.sector ≤ 127) ∧ (0 ≤ e.dump ∧ e.dump ≤ 4) := by
  obtain ⟨h1, h2, h3⟩ := (cer_all h).1 e he
  exact ⟨h1, by omega, h3⟩
theorem cer_len {l : List Src} (h : certOk l = true) : l.length ≤ 128 := by
  by_cases hl : l = []
  · subst hl; simp
  · have := (cer_all h).2 hl; omega
theorem ito_le {n : Int} (h : 0 ≤ n ∧ n ≤ 65535) : (Lib.itoa n).length ≤ 21 := Lib.itoa_length_le n (by omega) (by omega)
theorem word_le (k : Nat) : (wordL k).length ≤ 6 := by
  match k with
  | 0 => decide
  | 1 => decide
  | 2 => decide
  | 3 => decide
  | 4 => decide
  | k + 5 => exact Nat.zero_le _
theorem srcT_le {e : Src} (h2 : 0 ≤ e.sector ∧ e.sector ≤ 127) (h3 : 0 ≤ e.dump ∧ e.dump ≤ 4) : (srcT e).length ≤ 60 := by
  have h1 := ito_le (n := e.sector) (by omega)
  have h4 := ito_le (n := e.dump) (by omega)
  have h5 := word_le e.kind.toNat
  unfold srcT
  split <;> simp only [List.length_append, List.length_cons, List.length_nil] <;> omega
theorem src_one {e : Src} (h : e.kind = 1) : srcT e = (wordL 1 ++ (32 :: Lib.itoa e.sector)) ++ ((32 :: Lib.itoa e.dump) ++ [10]) := by
  unfold srcT; rw [if_pos h, h]; simp
theorem src_more {e : Src} (h : ¬ e.kind = 1) : srcT e = (wordL e.kind.toNat ++ (32 :: Lib.itoa e.sector)) ++ [10] := by
  unfold srcT; rw [if_neg h]; simp
end Go.Proofs.YtddihmpiaemadaaGreatDoor
