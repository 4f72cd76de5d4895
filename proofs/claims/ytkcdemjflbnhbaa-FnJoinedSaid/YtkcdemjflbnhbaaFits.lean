/- LedgerFits, impl and spec: the walks, and the law. -/
import Derived.Test.YtkcdemjflbnhbaaBrokenL
namespace Go.Proofs.Ytkcdemjflbnhbaa
set_option linter.unusedVariables false
open Go.RowKit

theorem check_i (s : ByteArray) (w : World) (hs : s.size ≤ 2097152) : Calls Try.prog 44 #[.string s] w fun e w' => e = .returned (.int .i64 (crcB s)) ∧ w = w' := by
  go_enter Try.func44, Try.ntmps44
  go_wp2_with (go_at_call 58; refine (crcS_i s w hs).mono ?_; rintro e w1 ⟨rfl, rfl⟩)
  go_ret
  exact ⟨rfl, rfl⟩
theorem check_s (s : ByteArray) (w : World) (hs : s.size ≤ 2097152) : Calls Try.prog 43 #[.string s] w fun e w' => e = .returned (.int .i64 (crcB s)) ∧ w = w' := by
  go_enter Try.func43, Try.ntmps43
  go_wp2_with (go_at_call 60; refine (crcS_s s w hs).mono ?_; rintro e w1 ⟨rfl, rfl⟩)
  go_ret
  exact ⟨rfl, rfl⟩
def fits (l : List Ent) (a b : ByteArray) : Bool :=
  ledgerOk l && (if l.length = 0 then a.toList == b.toList else ((l.headD default).before == (crcB a : Int)) && ((l.getD (l.length - 1) default).after == (crcB b : Int)))
theorem fits_no {l : List Ent} {a b : ByteArray} (h : ledgerOk l = false) : fits l a b = false := by simp [fits, h]
theorem fits_nil {a b : ByteArray} : fits [] a b = (a.toList == b.toList) := by simp [fits, show ledgerOk [] = true from rfl]
theorem fits_some {l : List Ent} {a b : ByteArray} (h : ledgerOk l = true) (h0 : l.length ≠ 0) : fits l a b = (((l.headD default).before == (crcB a : Int)) && ((l.getD (l.length - 1) default).after == (crcB b : Int))) := by simp [fits, h, h0]

set_option maxHeartbeats 2000000 in
theorem fits_i (B : Nat) (v : Value) (l : List Ent) (a b : ByteArray) (w : World) (hn : l.length ≤ 1048576) (h : EntL B w v l) (hv : ∀ e ∈ l, e.verb.size ≤ 1048576) (ha : a.size ≤ 1048576) (hb : b.size ≤ 1048576) :
    Calls Try.prog 21 #[v, .string a, .string b] w fun e w' => e = .returned (.bool (fits l a b)) ∧ Below w.heap.size w w' := by
  cases hok : ledgerOk l
  · have HF := Lib.hid (fits_no (a := a) (b := b) hok)
    go_enter Try.func21, Try.ntmps21
    go_wp2_with (go_at_call 19; refine (valid_i B v l w hn h hv).mono ?_; rintro e w1 ⟨rfl, hb1⟩)
    go_ret
    exact ⟨ret_bool HF.out.symm, (by repeat (first | exact Below.refl _ _ | refine Below.alloc ?_ (by first | omega | (simp; done) | (simp; omega)) _ | apply Below.drew | apply below_drewN | refine Below.setCell ?_ (by first | omega | (simp; done) | (simp; omega)) _ | refine Below.trans ?_ (Below.mono (by assumption) (by first | omega | (simp; done) | (simp; omega)))))⟩
  · obtain ⟨A, c, rfl, hA⟩ := h.shape
    by_cases hl0 : l = []
    · subst hl0
      have HF := Lib.hid (fits_nil (a := a) (b := b))
      go_enter Try.func21, Try.ntmps21
      go_wp2_with (go_at_call 19; refine (valid_i B _ [] w hn h hv).mono ?_; rintro e w1 ⟨rfl, hb1⟩)
      go_ret
      exact ⟨ret_bool HF.out.symm, (by repeat (first | exact Below.refl _ _ | refine Below.alloc ?_ (by first | omega | (simp; done) | (simp; omega)) _ | apply Below.drew | apply below_drewN | refine Below.setCell ?_ (by first | omega | (simp; done) | (simp; omega)) _ | refine Below.trans ?_ (Below.mono (by assumption) (by first | omega | (simp; done) | (simp; omega)))))⟩
    · have hp : 0 < l.length := List.length_pos_iff.2 hl0
      obtain ⟨g, rfl, _, hg⟩ := hA.resolve_left hl0
      clear hA
      have HF := Lib.hid (fits_some (a := a) (b := b) hok (by omega))
      have he0 : l[0]? = some (l.headD default) := by cases l with | nil => simp at hp | cons x r => rfl
      have hel : l[l.length - 1]? = some (l.getD (l.length - 1) default) := by rw [List.getD_eq_getElem?_getD, List.getElem?_eq_getElem (by omega : l.length - 1 < l.length)]; rfl
      have c0 : w.cell? ⟨g, 1, none⟩ = some (.int .i64 (l.headD default).before) := by have := OwnL.cell Ent.len h he0 (j := 1) rfl; simpa using this
      have c1 : w.cell? ⟨g, (l.length - 1) * 4 + 2, none⟩ = some (.int .i64 (l.getD (l.length - 1) default).after) := OwnL.cell Ent.len h hel (j := 2) rfl
      have hne : ((l.length : Int) == 0) = false := by simp; omega
      clear he0 hel
      generalize l.headD default = e0 at *
      generalize l.getD (l.length - 1) default = e1 at *
      go_enter Try.func21, Try.ntmps21
      go_wp2_with (go_at_call 19; refine (valid_i B _ l w hn h hv).mono ?_; rintro e w1 ⟨rfl, hb1⟩)
      have d0 : ∀ x : Wb w1, x.1.cell? ⟨g, 1, none⟩ = some (.int .i64 e0.before) := fun x => Wb.cell ((hb1.cell (p := ⟨g, _, none⟩) hg).trans c0) x
      have d1 : ∀ x : Wb w1, x.1.cell? ⟨g, (l.length - 1) * 4 + 2, none⟩ = some (.int .i64 e1.after) := fun x => Wb.cell ((hb1.cell (p := ⟨g, _, none⟩) hg).trans c1) x
      have hz1 := hb1.size
      cases hc : e0.before == (crcB a : Int)
      all_goals
        refine wp_region_wb (by kernel_rfl) (by kernel_rfl) ?_
        repeat (go_big_quiet_step ((go_at_call 44; exact Wb.same (check_i _ _ (by omega)))))
        refine wpQuiet_nil ?_; intro w2 hw'; obtain ⟨⟨w3, hb2⟩, hw''⟩ := hw'; subst hw''
        go_wp2
        go_ret
        refine ⟨ret_bool ?_, (by repeat (first | exact Below.refl _ _ | refine Below.alloc ?_ (by first | omega | (simp; done) | (simp; omega)) _ | apply Below.drew | apply below_drewN | refine Below.setCell ?_ (by first | omega | (simp; done) | (simp; omega)) _ | refine Below.trans ?_ (Below.mono (by assumption) (by first | omega | (simp; done) | (simp; omega)))))⟩
        rw [HF.out, hc]; rfl
set_option maxHeartbeats 2000000 in
theorem fits_s (B : Nat) (v : Value) (l : List Ent) (a b : ByteArray) (w : World) (hn : l.length ≤ 1048576) (h : EntL B w v l) (hv : ∀ e ∈ l, e.verb.size ≤ 1048576) (ha : a.size ≤ 1048576) (hb : b.size ≤ 1048576) :
    Calls Try.prog 20 #[v, .string a, .string b] w fun e w' => e = .returned (.bool (fits l a b)) ∧ Below w.heap.size w w' := by
  cases hok : ledgerOk l
  · have HF := Lib.hid (fits_no (a := a) (b := b) hok)
    go_enter Try.func20, Try.ntmps20
    go_wp2_with (go_at_call 42; refine (valid_s0 B v l w hn h hv).mono ?_; rintro e w1 ⟨rfl, hb1⟩)
    go_ret
    exact ⟨ret_bool HF.out.symm, (by repeat (first | exact Below.refl _ _ | refine Below.alloc ?_ (by first | omega | (simp; done) | (simp; omega)) _ | apply Below.drew | apply below_drewN | refine Below.setCell ?_ (by first | omega | (simp; done) | (simp; omega)) _ | refine Below.trans ?_ (Below.mono (by assumption) (by first | omega | (simp; done) | (simp; omega)))))⟩
  · obtain ⟨A, c, rfl, hA⟩ := h.shape
    by_cases hl0 : l = []
    · subst hl0
      have HF := Lib.hid (fits_nil (a := a) (b := b))
      go_enter Try.func20, Try.ntmps20
      go_wp2_with (go_at_call 42; refine (valid_s0 B _ [] w hn h hv).mono ?_; rintro e w1 ⟨rfl, hb1⟩)
      go_ret
      exact ⟨ret_bool HF.out.symm, (by repeat (first | exact Below.refl _ _ | refine Below.alloc ?_ (by first | omega | (simp; done) | (simp; omega)) _ | apply Below.drew | apply below_drewN | refine Below.setCell ?_ (by first | omega | (simp; done) | (simp; omega)) _ | refine Below.trans ?_ (Below.mono (by assumption) (by first | omega | (simp; done) | (simp; omega)))))⟩
    · have hp : 0 < l.length := List.length_pos_iff.2 hl0
      obtain ⟨g, rfl, _, hg⟩ := hA.resolve_left hl0
      clear hA
      have HF := Lib.hid (fits_some (a := a) (b := b) hok (by omega))
      have he0 : l[0]? = some (l.headD default) := by cases l with | nil => simp at hp | cons x r => rfl
      have hel : l[l.length - 1]? = some (l.getD (l.length - 1) default) := by rw [List.getD_eq_getElem?_getD, List.getElem?_eq_getElem (by omega : l.length - 1 < l.length)]; rfl
      have c0 : w.cell? ⟨g, 1, none⟩ = some (.int .i64 (l.headD default).before) := by have := OwnL.cell Ent.len h he0 (j := 1) rfl; simpa using this
      have c1 : w.cell? ⟨g, (l.length - 1) * 4 + 2, none⟩ = some (.int .i64 (l.getD (l.length - 1) default).after) := OwnL.cell Ent.len h hel (j := 2) rfl
      have hne : ((l.length : Int) == 0) = false := by simp; omega
      clear he0 hel
      generalize l.headD default = e0 at *
      generalize l.getD (l.length - 1) default = e1 at *
      go_enter Try.func20, Try.ntmps20
      go_wp2_with (go_at_call 42; refine (valid_s0 B _ l w hn h hv).mono ?_; rintro e w1 ⟨rfl, hb1⟩)
      have d0 : ∀ x : Wb w1, x.1.cell? ⟨g, 1, none⟩ = some (.int .i64 e0.before) := fun x => Wb.cell ((hb1.cell (p := ⟨g, _, none⟩) hg).trans c0) x
      have d1 : ∀ x : Wb w1, x.1.cell? ⟨g, (l.length - 1) * 4 + 2, none⟩ = some (.int .i64 e1.after) := fun x => Wb.cell ((hb1.cell (p := ⟨g, _, none⟩) hg).trans c1) x
      have hz1 := hb1.size
      cases hc : e0.before == (crcB a : Int)
      all_goals
        refine wp_region_wb (by kernel_rfl) (by kernel_rfl) ?_
        repeat (go_big_quiet_step ((go_at_call 43; exact Wb.same (check_s _ _ (by omega)))))
        refine wpQuiet_nil ?_; intro w2 hw'; obtain ⟨⟨w3, hb2⟩, hw''⟩ := hw'; subst hw''
        go_wp2
        go_ret
        refine ⟨ret_bool ?_, (by repeat (first | exact Below.refl _ _ | refine Below.alloc ?_ (by first | omega | (simp; done) | (simp; omega)) _ | apply Below.drew | apply below_drewN | refine Below.setCell ?_ (by first | omega | (simp; done) | (simp; omega)) _ | refine Below.trans ?_ (Below.mono (by assumption) (by first | omega | (simp; done) | (simp; omega)))))⟩
        rw [HF.out, hc]; rfl
end Go.Proofs.Ytkcdemjflbnhbaa
