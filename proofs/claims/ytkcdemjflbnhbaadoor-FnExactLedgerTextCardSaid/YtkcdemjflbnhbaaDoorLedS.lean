/- LedgerText, the reference: the walk. -/
import Derived.Test.YtkcdemjflbnhbaaDoorLedP
import Derived.Test.YtkcdemjflbnhbaaDoorDecS
namespace Go.Proofs.YtkcdemjflbnhbaaDoor
set_option linter.unusedVariables false
open Go.RowKit
theorem ent_text (e : Ent) (acc : List UInt8) : strB acc ++ (e.verb ++ ⟨#[32]⟩ ++ strB (Lib.itoa e.before) ++ ⟨#[32]⟩ ++ strB (Lib.itoa e.after) ++ ⟨#[32]⟩ ++ strB (Lib.itoa e.chain) ++ ⟨#[10]⟩) = strB (acc ++ entT e) := by
  unfold entT
  rw [join3]
  apply ByteArray.ext
  apply Array.ext'
  simp [strB]
set_option maxRecDepth 20000 in
set_option maxHeartbeats 4000000 in
theorem ltextT_s (B : Nat) (l : List Ent) (v : Value) (w : World) (h : EntL B w v l) (hok : ledgerOk l = true) :
    Calls Tryd.prog 24 #[v] w fun e w' => e = .returned (.string (strB (ledT l))) ∧ Below w.heap.size w w' := by
  obtain ⟨A, c, rfl, hA⟩ := h.shape
  have hl30 := led_len hok
  have HE := Lib.hid (fun e he => led_ent (l := l) hok (e := e) he)
  have HC : Hid (∀ (g : Nat), A = some ⟨g, 0, none⟩ → EntS w g l) := Lib.hid (fun g hg => by
    subst hg
    rcases hA with hl | ⟨g', e, _, hlt⟩
    · subst hl
      exact ⟨by
        rcases World.ownsRow.lt h g rfl with ⟨_, h2⟩
        exact h2, fun k e he => by cases he⟩
    · exact EntS.of h (by injection e with e; injection e with e _ _; subst e; exact hlt))
  clear h hok
  go_enter Tryd.func24, Tryd.ntmps24
  go_wp2
  go_loopw [4, 3] (fun i t wr => ∃ (k : Nat) (acc : List UInt8), k ≤ l.length ∧ i = .int .i64 k ∧ t = .string (strB acc) ∧ acc.length ≤ 80 * k ∧ Below w.heap.size w wr ∧ Hid (ledT l = acc ++ ledT (l.drop k))) (fun i _ _ => l.length - (intOf i).toNat)
  case atStart => exact ⟨0, [], by omega, rfl, rfl, by simp, Below.refl _ _, Lib.hid rfl⟩
  case round =>
    obtain ⟨k, acc, hk, rfl, rfl, hac, hb, HK⟩ := hrel
    have zr := hb.size
    by_cases hlt : k < l.length
    · obtain ⟨e, he⟩ : ∃ e, l[k]? = some e := ⟨l[k], List.getElem?_eq_getElem hlt⟩
      obtain ⟨g, rfl, _, _⟩ := hA.resolve_left (by intro h0; rw [h0] at hlt; simp at hlt)
      obtain ⟨hg, hc⟩ := HC.out g rfl
      obtain ⟨c0, c1, c2, c3⟩ := hc k e he
      have p0 := (hb.cell (p := ⟨g, _, none⟩) hg).trans c0
      have p1 := (hb.cell (p := ⟨g, _, none⟩) hg).trans c1
      have p2 := (hb.cell (p := ⟨g, _, none⟩) hg).trans c2
      have p3 := (hb.cell (p := ⟨g, _, none⟩) hg).trans c3
      obtain ⟨b0, b1, b2, b3⟩ := HE.out e (List.mem_of_getElem? he)
      have HN := ledT_next he HK
      have HT := Lib.hid (ent_text e acc)
      clear he hc c0 c1 c2 c3
      have hl := entT_le ⟨b0, b1, b2, b3⟩
      have hsa : ∀ x y : ByteArray, (x ++ y).size = x.size + y.size := fun _ _ => ByteArray.size_append
      have hs0 : (strB acc).size ≤ 2400 := by rw [strB_size]; omega
      have hs1 : (strB (Lib.itoa e.before)).size ≤ 21 := by rw [strB_size]; exact itoa_le b1
      have hs2 : (strB (Lib.itoa e.after)).size ≤ 21 := by rw [strB_size]; exact itoa_le b2
      have hs3 : (strB (Lib.itoa e.chain)).size ≤ 21 := by rw [strB_size]; exact itoa_le b3
      have e0 : ∀ x : Wb (wr.alloc (.cells #[.string e.verb, .int .i64 e.before, .int .i64 e.after, .int .i64 e.chain] 45)), x.1.cell? ⟨wr.heap.size, 0, none⟩ = some (.string e.verb) := fun x => Wb.cell (by simp) x
      have e1 : ∀ x : Wb (wr.alloc (.cells #[.string e.verb, .int .i64 e.before, .int .i64 e.after, .int .i64 e.chain] 45)), x.1.cell? ⟨wr.heap.size, 1, none⟩ = some (.int .i64 e.before) := fun x => Wb.cell (by simp) x
      have e2 : ∀ x : Wb (wr.alloc (.cells #[.string e.verb, .int .i64 e.before, .int .i64 e.after, .int .i64 e.chain] 45)), x.1.cell? ⟨wr.heap.size, 2, none⟩ = some (.int .i64 e.after) := fun x => Wb.cell (by simp) x
      have e3 : ∀ x : Wb (wr.alloc (.cells #[.string e.verb, .int .i64 e.before, .int .i64 e.after, .int .i64 e.chain] 45)), x.1.cell? ⟨wr.heap.size, 3, none⟩ = some (.int .i64 e.chain) := fun x => Wb.cell (by simp) x
      have HD1 := Lib.hid (fun w' => decI_s e.before w' b1)
      have HD2 := Lib.hid (fun w' => decI_s e.after w' b2)
      have HD3 := Lib.hid (fun w' => decI_s e.chain w' b3)
      go_wp2_with (fail)
      refine wp_region_wb (by kernel_rfl) (by kernel_rfl) ?_; (repeat (go_big_quiet_step (first | (go_at_call_of 49 (Value.int .i64 e.before); exact Wb.calls (HD1.out _)) | (go_at_call_of 49 (Value.int .i64 e.after); exact Wb.calls (HD2.out _)) | (go_at_call_of 49 (Value.int .i64 e.chain); exact Wb.calls (HD3.out _))))); refine wpQuiet_nil ?_; rintro w1 ⟨⟨w1', hb1⟩, rfl⟩
      go_wp2
      go_roundw
      case rel => exact ⟨k + 1, acc ++ entT e, by omega, by go_num, by rw [← HT.out], by simp; omega, (Below.alloc hb zr _).trans (hb1.mono (by simp; omega)), HN⟩
      case measure => simp [intOf]; omega
    · have hT := ledT_end (by omega) HK
      go_wp2
      go_ret
      exact ⟨ret_str (congrArg strB hT.symm), hb⟩
theorem ltext_s (B : Nat) (l : List Ent) (v : Value) (w : World) (h : EntL B w v l) (hn : l.length ≤ 1048576) (hv : ∀ e ∈ l, e.verb.size ≤ 1048576) :
    Calls Tryd.prog 7 #[v] w fun e w' => e = .returned (.string (ledS l)) ∧ Below w.heap.size w w' := by
  have HV := Lib.hid (valid_s0 B v l w hn h hv)
  cases hok : ledgerOk l
  · rw [hok] at HV
    have HF := Lib.hid (ledS_no hok)
    go_enter Tryd.func7, Tryd.ntmps7
    go_wp2_with (fail)
    refine HV.out.mono ?_; rintro e w1 ⟨rfl, hb1⟩
    go_wp2
    go_ret
    exact ⟨ret_str HF.out.symm, hb1⟩
  · rw [hok] at HV
    have HF := Lib.hid (ledS_yes hok)
    have HT := Lib.hid (fun w' hb => ltextT_s B l v w' (OwnL.below h hb) hok)
    go_enter Tryd.func7, Tryd.ntmps7
    go_wp2_with (fail)
    refine HV.out.mono ?_; rintro e w1 ⟨rfl, hb1⟩
    go_wp2_with (fail)
    refine (HT.out w1 hb1).mono ?_; rintro e w2 ⟨rfl, hb2⟩
    go_wp2
    go_ret
    exact ⟨ret_str HF.out.symm, hb1.trans (hb2.mono hb1.size)⟩
end Go.Proofs.YtkcdemjflbnhbaaDoor
