/- CertificateText, the reference: the walk. -/
import Derived.Test.YtiignbomjjfckaaDoorCerP
import Derived.Test.YtiignbomjjfckaaDoorDecS
namespace Go.Proofs.YtiignbomjjfckaaDoor
set_option linter.unusedVariables false
set_option linter.unusedSimpArgs false
open Go.RowKit
def headT (s : Src) : List UInt8 := wordL s.kind.toNat ++ (32 :: Lib.itoa s.sector)
theorem headT_le {e : Src} (h2 : 0 ≤ e.sector ∧ e.sector ≤ 127) : (headT e).length ≤ 30 := by
  have h1 := ito_le (n := e.sector) (by omega)
  have h5 := word_le e.kind.toNat
  unfold headT
  simp only [List.length_append, List.length_cons]; omega
theorem head_text (m : Nat) (x y : Int) : strB (wordL m) ++ ⟨#[32]⟩ ++ strB (Lib.itoa x) = strB (headT ⟨m, x, y⟩) := by
  unfold headT
  apply ByteArray.ext
  apply Array.ext'
  simp [strB]
theorem words_s (w : World) : Calls Tryd.prog 24 #[] w fun e w' => e = .returned (.slice (some ⟨w.heap.size, 0, none⟩) 5 5) ∧ Below w.heap.size w w' ∧ w.heap.size < w'.heap.size ∧ ∀ k, k < 5 → w'.cell? ⟨w.heap.size, k, none⟩ = some (.string (strB (wordL k))) := by
  go_enter Tryd.func24, Tryd.ntmps24
  go_wp2
  go_ret
  refine ⟨rfl, Below.alloc (Below.refl _ _) (Nat.le_refl _) _, by simp, fun k hk => ?_⟩
  match k, hk with
  | 0, _ => simp; rfl
  | 1, _ => simp; rfl
  | 2, _ => simp; rfl
  | 3, _ => simp; rfl
  | 4, _ => simp; rfl
set_option maxRecDepth 20000 in
set_option maxHeartbeats 8000000 in
theorem ctextT_s (gb c : Nat) (A : Option Addr) (l : List Src) (w : World) (hbox : w.cell? ⟨gb, 0, none⟩ = some (.slice A l.length c)) (hA : l = [] ∨ ∃ g, A = some ⟨g, 0, none⟩ ∧ g < w.heap.size ∧ ∀ (k : Nat) (s : Src) (j : Nat) (u : Value), l[k]? = some s → s.cells[j]? = some u → w.cell? ⟨g, k * 3 + j, none⟩ = some u) (hok : certOk l = true) :
    Calls Tryd.prog 16 #[.pointer (some ⟨gb, 0, none⟩)] w fun e w' => e = .returned (.string (strB (cerT l))) ∧ Below w.heap.size w w' := by
  have hgb := World.block_lt_of_cell? w _ hbox
  have hl30 := cer_len hok
  have HE := Lib.hid (fun e he => cer_ent (l := l) hok (e := e) he)
  have HA := Lib.hid hA
  clear hok hA
  go_enter Tryd.func16, Tryd.ntmps16
  go_wp2
  go_loopw [4, 3] (fun i t wr => ∃ (k : Nat) (acc : List UInt8), k ≤ l.length ∧ i = .int .i64 k ∧ t = .string (strB acc) ∧ acc.length ≤ 60 * k ∧ Below w.heap.size w wr ∧ Hid (cerT l = acc ++ cerT (l.drop k))) (fun i _ _ => l.length - (intOf i).toNat)
  case atStart => exact ⟨0, [], by omega, rfl, rfl, by simp, Below.refl _ _, Lib.hid rfl⟩
  case round =>
    obtain ⟨k, acc, hk, rfl, rfl, hac, hb, HK⟩ := hrel
    have zr := hb.size
    have pb := (hb.cell (p := ⟨gb, 0, none⟩) hgb).trans hbox
    by_cases hlt : k < l.length
    · obtain ⟨e, he⟩ : ∃ e, l[k]? = some e := ⟨l[k], List.getElem?_eq_getElem hlt⟩
      obtain ⟨g, rfl, hg, hc⟩ := HA.out.resolve_left (by intro h0; rw [h0] at hlt; simp at hlt)
      have p0 := (hb.cell (p := ⟨g, k * 3, none⟩) hg).trans (hc k e 0 _ he rfl)
      have p1 := (hb.cell (p := ⟨g, k * 3 + 1, none⟩) hg).trans (hc k e 1 _ he rfl)
      have p2 := (hb.cell (p := ⟨g, k * 3 + 2, none⟩) hg).trans (hc k e 2 _ he rfl)
      obtain ⟨b0, b1, b2⟩ := HE.out e (List.mem_of_getElem? he)
      have HN := cerT_next he HK
      have hl := srcT_le b1 b2
      have hlh := headT_le b1
      obtain ⟨kd, x, y⟩ := e
      dsimp only at p0 p1 p2 b0 b1 b2
      obtain ⟨m, rfl⟩ := Int.eq_ofNat_of_zero_le (show 0 ≤ kd by omega)
      have hm5 : m < 5 := by omega
      have hm5i : (m : Int) < 5 := by omega
      have HH := Lib.hid (head_text m x y)
      clear he hc
      have hsa : ∀ x y : ByteArray, (x ++ y).size = x.size + y.size := fun _ _ => ByteArray.size_append
      have hs0 : (strB acc).size ≤ 8000 := by rw [strB_size]; omega
      have hs1 : (strB (Lib.itoa x)).size ≤ 21 := by rw [strB_size]; exact ito_le (by omega)
      have hs2 : (strB (Lib.itoa y)).size ≤ 21 := by rw [strB_size]; exact ito_le (by omega)
      have hs3 : (strB (wordL m)).size ≤ 6 := by rw [strB_size]; exact word_le m
      have hx1 : ¬ (9223372036854775807 < (strB (wordL m)).size + 1) := by omega
      have hx2 : ¬ (9223372036854775807 < (strB (wordL m)).size + 1 + (strB (Lib.itoa x)).size) := by omega
      have hx3 : ¬ (9223372036854775807 < (strB acc).size + ((strB (wordL m)).size + 1 + (strB (Lib.itoa x)).size)) := by omega
      have hbx : Below wr.heap.size wr (wr.alloc (.cells #[.int .i64 (m : Int), .int .i64 x, .int .i64 y] 48)) := Below.alloc (Below.refl _ _) (Nat.le_refl _) _
      have q0 : ((wr.alloc (.cells #[.int .i64 (m : Int), .int .i64 x, .int .i64 y] 48)).drew).cell? ⟨wr.heap.size, 0, none⟩ = some (.int .i64 (m : Int)) := by show (World.alloc _ _).cell? _ = _; simp
      have q1 : ((wr.alloc (.cells #[.int .i64 (m : Int), .int .i64 x, .int .i64 y] 48)).drew).cell? ⟨wr.heap.size, 1, none⟩ = some (.int .i64 x) := by show (World.alloc _ _).cell? _ = _; simp
      have q2 : ((wr.alloc (.cells #[.int .i64 (m : Int), .int .i64 x, .int .i64 y] 48)).drew).cell? ⟨wr.heap.size, 2, none⟩ = some (.int .i64 y) := by show (World.alloc _ _).cell? _ = _; simp
      have zb : ((wr.alloc (.cells #[.int .i64 (m : Int), .int .i64 x, .int .i64 y] 48)).drew).heap.size = wr.heap.size + 1 := by show (World.alloc _ _).heap.size = _; simp
      have HW := Lib.hid (words_s ((wr.alloc (.cells #[.int .i64 (m : Int), .int .i64 x, .int .i64 y] 48)).drew))
      have HCM : Hid (∀ w3 : World, ((wr.alloc (.cells #[.int .i64 (m : Int), .int .i64 x, .int .i64 y] 48)).drew).heap.size < w3.heap.size → (∀ k, k < 5 → w3.cell? ⟨((wr.alloc (.cells #[.int .i64 (m : Int), .int .i64 x, .int .i64 y] 48)).drew).heap.size, k, none⟩ = some (.string (strB (wordL k)))) → w3.cell? ⟨wr.heap.size + 1, m, none⟩ = some (.string (strB (wordL m))) ∧ wr.heap.size + 1 < w3.heap.size) := Lib.hid (fun w3 h1 h2 => by rw [zb] at h1 h2; exact ⟨h2 m hm5, h1⟩)
      have HD := Lib.hid (fun w' => decI_s x w' (by omega))
      have HD2 := Lib.hid (fun w' => decI_s y w' (by omega))
      have F3 : Hid (∀ w3, Below ((wr.alloc (.cells #[.int .i64 (m : Int), .int .i64 x, .int .i64 y] 48)).drew).heap.size (wr.alloc (.cells #[.int .i64 (m : Int), .int .i64 x, .int .i64 y] 48)).drew w3 → w3.cell? ⟨wr.heap.size, 0, none⟩ = some (.int .i64 (m : Int)) ∧ w3.cell? ⟨wr.heap.size, 1, none⟩ = some (.int .i64 x) ∧ w3.cell? ⟨wr.heap.size, 2, none⟩ = some (.int .i64 y)) := Lib.hid (fun w3 hb3 => ⟨(hb3.cell (p := ⟨wr.heap.size, 0, none⟩) (by show wr.heap.size < _; omega)).trans q0, (hb3.cell (p := ⟨wr.heap.size, 1, none⟩) (by show wr.heap.size < _; omega)).trans q1, (hb3.cell (p := ⟨wr.heap.size, 2, none⟩) (by show wr.heap.size < _; omega)).trans q2⟩)
      have HF4 : Hid (∀ w4, Below ((wr.alloc (.cells #[.int .i64 (m : Int), .int .i64 x, .int .i64 y] 48)).drew).heap.size (wr.alloc (.cells #[.int .i64 (m : Int), .int .i64 x, .int .i64 y] 48)).drew w4 → Below w.heap.size w w4) := Lib.hid (fun w4 h => (hb.trans (Below.mono (Below.drew hbx) zr)).trans (h.mono (by rw [zb]; omega)))
      have hE : strB acc ++ (strB (wordL m) ++ ⟨#[32]⟩ ++ strB (Lib.itoa x)) = strB (acc ++ headT ⟨m, x, y⟩) := by rw [HH.out, strB_app]
      have hs4 : (strB (acc ++ headT ⟨m, x, y⟩)).size ≤ 8100 := by rw [strB_size, List.length_append]; omega
      by_cases h1 : m = 1
      · have d1 : ((m : Int) == 1) = true := by rw [h1]; rfl
        have hE2 : strB (acc ++ headT ⟨m, x, y⟩) ++ (⟨#[32]⟩ ++ strB (Lib.itoa y)) = strB (acc ++ (headT ⟨m, x, y⟩ ++ (32 :: Lib.itoa y))) := by
          apply ByteArray.ext
          apply Array.ext'
          simp [strB]
        have hE3 : strB (acc ++ (headT ⟨m, x, y⟩ ++ (32 :: Lib.itoa y))) ++ ⟨#[10]⟩ = strB (acc ++ srcT ⟨m, x, y⟩) := by
          rw [src_one (e := ⟨m, x, y⟩) (by rw [h1]; rfl)]
          apply ByteArray.ext
          apply Array.ext'
          simp [strB, headT, h1]
        have hx4 : ¬ (9223372036854775807 < 1 + (strB (Lib.itoa y)).size) := by omega
        have hx5 : ¬ (9223372036854775807 < (strB (acc ++ headT ⟨m, x, y⟩)).size + (1 + (strB (Lib.itoa y)).size)) := by omega
        have hx6 : ¬ (9223372036854775807 < (strB (acc ++ (headT ⟨m, x, y⟩ ++ (32 :: Lib.itoa y)))).size + 1) := by
          have := ito_le (n := y) (by omega)
          rw [strB_size] at hs4 ⊢; simp only [List.length_append, List.length_cons] at hs4 ⊢; omega
        have H1 := Lib.hid h1
        clear h1
        go_wp2_with (fail)
        go_region_law (go_simp; first | (go_at_call 24; refine HW.out.mono ?_; rintro r w3 ⟨rfl, hb3, hz3, hc3⟩; have HB3 := Lib.hid hb3; obtain ⟨hcm, hzm⟩ := HCM.out w3 hz3 hc3; have HZ3 := Lib.hid hzm; clear hzm; obtain ⟨r0, r1, r2⟩ := F3.out w3 hb3; clear hb3 hc3 hz3; dsimp only) | (go_at_call 34; refine (HD.out w3).mono ?_; rintro r w4 ⟨rfl, hb4⟩; have HB4 := Lib.hid (HB3.out.trans (hb4.mono HB3.out.size)); have hcm4 := (hb4.cell (p := ⟨_, m, none⟩) HZ3.out).trans hcm; obtain ⟨r40, r41, r42⟩ := F3.out w4 HB4.out; have B4 := HF4.out w4 HB4.out; clear hb4; dsimp only))
        all_goals clear hbx q0 q1 q2 r0 r1 r2 hcm hcm4 HCM HW HB3 HZ3 F3
        all_goals (go_wp2_with (go_at_call 34; refine (HD2.out w4).mono ?_; rintro r w5 ⟨rfl, hb5⟩))
        all_goals go_roundw
        all_goals first | exact ⟨k + 1, acc ++ srcT ⟨m, x, y⟩, by omega, by go_num, rfl, by rw [List.length_append]; omega, B4.trans (hb5.mono B4.size), HN⟩ | (simp [intOf]; omega)
      · have d1 : ((m : Int) == 1) = false := by rw [beq_eq_false_iff_ne]; omega
        have hE3 : strB (acc ++ headT ⟨m, x, y⟩) ++ ⟨#[10]⟩ = strB (acc ++ srcT ⟨m, x, y⟩) := by
          rw [src_more (e := ⟨m, x, y⟩) (show ¬ (m : Int) = 1 by omega)]
          apply ByteArray.ext
          apply Array.ext'
          simp [strB, headT]
        have hx6 : ¬ (9223372036854775807 < (strB (acc ++ headT ⟨m, x, y⟩)).size + 1) := by omega
        have H1 := Lib.hid h1
        clear h1
        go_wp2_with (fail)
        go_region_law (go_simp; first | (go_at_call 24; refine HW.out.mono ?_; rintro r w3 ⟨rfl, hb3, hz3, hc3⟩; have HB3 := Lib.hid hb3; obtain ⟨hcm, hzm⟩ := HCM.out w3 hz3 hc3; have HZ3 := Lib.hid hzm; clear hzm; obtain ⟨r0, r1, r2⟩ := F3.out w3 hb3; clear hb3 hc3 hz3; dsimp only) | (go_at_call 34; refine (HD.out w3).mono ?_; rintro r w4 ⟨rfl, hb4⟩; have HB4 := Lib.hid (HB3.out.trans (hb4.mono HB3.out.size)); have hcm4 := (hb4.cell (p := ⟨_, m, none⟩) HZ3.out).trans hcm; obtain ⟨r40, r41, r42⟩ := F3.out w4 HB4.out; have B4 := HF4.out w4 HB4.out; clear hb4; dsimp only))
        all_goals clear hbx q0 q1 q2 r0 r1 r2 hcm hcm4 HCM HW HB3 HZ3 F3
        all_goals go_wp2
        all_goals go_roundw
        all_goals first | exact ⟨k + 1, acc ++ srcT ⟨m, x, y⟩, by omega, by go_num, rfl, by rw [List.length_append]; omega, B4, HN⟩ | (simp [intOf]; omega)
    · have hT := cerT_end (by omega) HK
      go_wp2
      go_ret
      exact ⟨ret_str (congrArg strB hT.symm), hb⟩
end Go.Proofs.YtiignbomjjfckaaDoor
