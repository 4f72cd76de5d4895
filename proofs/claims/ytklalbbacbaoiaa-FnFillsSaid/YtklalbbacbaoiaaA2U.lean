/- A2Unknown, a2Byte (as a number that the bytes alone determine), a2Long: the walks; slices built of one or two numbers. -/
import Derived.Test.YtklalbbacbaoiaaDrawU
import Derived.Test.YtklalbbacbaoiaaFillB
namespace Go.Proofs.Ytklalbbacbaoiaa
set_option linter.unusedVariables false
open Go.RowKit
theorem Int64L.built1 (w : World) (B : Nat) (x : Int) (hB : B ≤ w.heap.size) : Int64L B (w.alloc (.cells #[.int .i64 x] 2)) (.slice (some ⟨w.heap.size, 0, none⟩) 1 1) [x] := by
  refine ⟨by simp [flat, icell], .inr ⟨w.heap.size, 1, #[.int .i64 x], rfl, hB, heap_alloc_new w _, ?_⟩⟩
  simp [flat, icell, maxLen]
set_option maxHeartbeats 1000000 in
theorem a2unknown_s (A : Option Addr) (n c : Nat) (w : World) (h : BytesIn w A n) (hn : n ≤ 1048576) :
    Calls Try.prog 46 #[.slice A n c] w fun e w' => ∃ (s : ByteArray) (v : Value) (u : List Nat) (k : Nat), e = .returned (.tuple #[.string s, v, .int .i64 k]) ∧ DrU s u k ∧ Int64L w.heap.size w' v (intsN u) ∧ Below w.heap.size w w' := by
  have hD : DrAt (w.alloc (.cells #[.slice A n c, .int .i64 0, .int .u64 0] 118)) w.heap.size A n c 0 := by
    refine ⟨by simp, by simp, by simp, ⟨0, by simp⟩, by simp, ?_⟩
    rcases h with h | ⟨b, o, h1, h2, h3⟩
    · exact .inl h
    · exact .inr ⟨b, o, h1, h2, fun j hj => by
        obtain ⟨x, hx, hc⟩ := h3 j hj
        exact ⟨x, hx, (World.cell?_alloc_old _ _ _ (Nat.ne_of_lt h2)).trans hc⟩⟩
  have HG := drawU_s w.heap.size A n c 0 _ hD hn (by omega)
  clear h hD
  go_enter Try.func46, Try.ntmps46
  go_wp2_with (first | (go_at_call 83; refine HG.mono ?_; rintro e w1 ⟨s, v, u, k, rfl, hg, hO, hC⟩) | go_in)
  go_ret3
  exact ⟨s, v, u, k, rfl, hg, OwnL.base hO (by simp), (Below.alloc (Below.refl _ _) (Nat.le_refl _) _).trans ⟨hC.os, hC.tape, hC.output, hC.size, fun k hk => hC.block k (by simp; omega) (by omega)⟩⟩
set_option maxHeartbeats 1000000 in
theorem a2byte' (A : Option Addr) (n c at0 m : Nat) (w : World) (h : BytesIn w A n) (hn : n ≤ 1048576) (hat : at0 ≤ 16) (hm : m ≤ 1048576) :
    ∃ r : Nat, (r = 0 ∨ r < m) ∧ ∀ W : World, W.heap = w.heap → Calls Try.prog 49 #[.slice A n c, .int .i64 at0, .int .i64 m] W fun e w' => e = .returned (.int .i64 (r : Int)) ∧ w' = W := by
  by_cases h1 : at0 < n
  · obtain ⟨b, o, rfl, hb, hc⟩ := h.resolve_left (by omega)
    by_cases hm1 : 1 ≤ m
    · obtain ⟨x, hx, px⟩ := hc at0 h1
      by_cases h2 : at0 + 1 < n
      · obtain ⟨y, hy, py⟩ := hc (at0 + 1) h2
        clear hc h
        refine ⟨(256 * x + y) % m, .inr (Nat.mod_lt _ (by omega)), fun W hW => ?_⟩
        have qx := (World.cell?_of_block (w := w) (w' := W) (a := ⟨b, o + at0, none⟩) (by rw [hW])).trans px
        have qy := (World.cell?_of_block (w := w) (w' := W) (a := ⟨b, o + (at0 + 1), none⟩) (by rw [hW])).trans py
        clear px py hW
        go_enter Try.func49, Try.ntmps49
        go_wp2
        go_ret
        refine ⟨ret_int ?_, rfl⟩
        first | rfl | (simp; done) | (push_cast; rfl) | omega
      · clear hc h
        refine ⟨x % m, .inr (Nat.mod_lt _ (by omega)), fun W hW => ?_⟩
        have qx := (World.cell?_of_block (w := w) (w' := W) (a := ⟨b, o + at0, none⟩) (by rw [hW])).trans px
        clear px hW
        go_enter Try.func49, Try.ntmps49
        go_wp2
        go_ret
        refine ⟨ret_int ?_, rfl⟩
        first | rfl | (simp; done) | (push_cast; rfl) | omega
    · clear hc h
      refine ⟨0, .inl rfl, fun W hW => ?_⟩
      clear hW
      go_enter Try.func49, Try.ntmps49
      go_wp2
      go_ret
      exact ⟨rfl, rfl⟩
  · clear h
    refine ⟨0, .inl rfl, fun W hW => ?_⟩
    clear hW
    go_enter Try.func49, Try.ntmps49
    go_wp2
    go_ret
    exact ⟨rfl, rfl⟩
theorem a2long (A A2 : Option Addr) (n c n2 c2 : Nat) (w : World) (hm : n ≤ maxLen) (hm2 : n2 ≤ maxLen) :
    Calls Try.prog 45 #[.slice A n c, .slice A2 n2 c2] w fun e w' => e = .returned (.bool (decide (3000 < n) || decide (3000 < n2))) ∧ w = w' := by
  unfold maxLen at hm hm2
  by_cases h1 : 3000 < n
  · have d1 : decide ((3000 : Int) < (n : Int)) = true := by simp; omega
    rw [decide_eq_true h1, Bool.true_or]
    go_enter Try.func45, Try.ntmps45
    go_wp2
    go_ret
    exact ⟨rfl, rfl⟩
  · have d1 : decide ((3000 : Int) < (n : Int)) = false := by simp; omega
    rw [decide_eq_false h1, Bool.false_or]
    cases h2 : decide (3000 < n2)
    · have h2' := of_decide_eq_false h2
      have d2 : decide ((3000 : Int) < (n2 : Int)) = false := by simp; omega
      go_enter Try.func45, Try.ntmps45
      go_wp2
      go_ret
      exact ⟨rfl, rfl⟩
    · have h2' := of_decide_eq_true h2
      have d2 : decide ((3000 : Int) < (n2 : Int)) = true := by simp; omega
      go_enter Try.func45, Try.ntmps45
      go_wp2
      go_ret
      exact ⟨rfl, rfl⟩
set_option maxHeartbeats 1000000 in
theorem crcs_i (s : ByteArray) (w : World) (hs : s.size ≤ 2097152) :
    Calls Try.prog 47 #[.string s, .int .i64 65535] w fun e w' => e = .returned (.int .i64 (crcN (bts s) 65535)) ∧ w' = w := by
  have HC := Lib.hid (crcn_i s 65535 w hs (by omega))
  go_enter Try.func47, Try.ntmps47
  go_wp2_with (first | (go_at_call 62; refine HC.out.mono ?_; rintro e w1 ⟨rfl, rfl⟩) | go_in)
  go_ret
  exact ⟨rfl, rfl⟩
theorem set_lt {l : List Nat} {i x : Nat} (h : ∀ y ∈ l, y < 256) (hx : x < 256) : ∀ y ∈ l.set i x, y < 256 := by
  intro y hy
  rcases List.mem_or_eq_of_mem_set hy with hy | rfl
  · exact h y hy
  · exact hx
theorem xor_lt8 {x y : Nat} (hx : x < 256) (hy : y < 256) : x ^^^ y < 256 := Nat.xor_lt_two_pow (n := 8) (by omega) (by omega)
theorem OwnL.le {α : Type} {f : α → List Value} {z : Nat} {e : TypeId} {B : Nat} {w : World} {v : Value} {l : List α} (h : OwnL f z e B w v l) : l.length ≤ maxLen := by
  rcases h.2 with ⟨_, h0⟩ | ⟨g, cap, cur, _, _, _, h1, h2, _⟩
  · omega
  · omega
theorem one_split {l : List Nat} {a : Nat} (h : a < l.length) : l = l.take a ++ l.getD a 0 :: l.drop (a + 1) := by
  rw [List.getD_eq_getElem?_getD, List.getElem?_eq_getElem h, Option.getD_some, ← List.drop_eq_getElem_cons h, List.take_append_drop]
theorem two_split {l : List Nat} {a : Nat} (h : a + 1 < l.length) : l = l.take a ++ l.getD a 0 :: l.getD (a + 1) 0 :: l.drop (a + 2) := by
  have h1 := one_split (l := l) (a := a) (by omega)
  have e : l.drop (a + 1) = l.getD (a + 1) 0 :: l.drop (a + 2) := by
    rw [List.getD_eq_getElem?_getD, List.getElem?_eq_getElem h, Option.getD_some]; exact List.drop_eq_getElem_cons h
  rw [← e]; exact h1
theorem getD_same {G F : List Nat} {j : Nat} (hl : G.length = F.length) (h : G.getD j 0 = F.getD j 0) : G[j]? = F[j]? := by
  by_cases hj : j < G.length
  · rw [List.getD_eq_getElem?_getD, List.getD_eq_getElem?_getD, List.getElem?_eq_getElem hj, List.getElem?_eq_getElem (by omega)] at h
    rw [List.getElem?_eq_getElem hj, List.getElem?_eq_getElem (by omega)]; simpa using h
  · rw [List.getElem?_eq_none (by omega), List.getElem?_eq_none (by omega)]
theorem take_same {G F : List Nat} {a : Nat} (hl : G.length = F.length) (h : ∀ j, j < a → G.getD j 0 = F.getD j 0) : G.take a = F.take a := by
  refine List.ext_getElem? fun j => ?_
  rw [List.getElem?_take, List.getElem?_take]
  split
  · rename_i hj; exact getD_same hl (h j hj)
  · rfl
theorem drop_same {G F : List Nat} {a : Nat} (hl : G.length = F.length) (h : ∀ j, a ≤ j → G.getD j 0 = F.getD j 0) : G.drop a = F.drop a := by
  refine List.ext_getElem? fun j => ?_
  rw [List.getElem?_drop, List.getElem?_drop]
  exact getD_same hl (h (a + j) (by omega))
theorem byte_inj {x y : Nat} (hx : x < 256) (hy : y < 256) (h : UInt8.ofNat x = UInt8.ofNat y) : x = y := by
  have := congrArg UInt8.toNat h
  rw [UInt8.toNat_ofNat', UInt8.toNat_ofNat'] at this
  omega
theorem getD_lt {l : List Nat} (h : ∀ x ∈ l, x < 256) (j : Nat) : l.getD j 0 < 256 := by
  by_cases hj : j < l.length
  · exact h _ (getD_mem hj)
  · rw [List.getD_eq_getElem?_getD, List.getElem?_eq_none (by omega)]; decide
theorem two_uniq {G F : List Nat} {a : Nat} (hl : G.length = F.length) (gl : ∀ x ∈ G, x < 256) (fl : ∀ x ∈ F, x < 256) (h : a + 1 < G.length) (hs : ∀ j, j ≠ a → j ≠ a + 1 → G.getD j 0 = F.getD j 0) (hc : crcN G 65535 = crcN F 65535) : G = F := by
  have e1 := take_same (a := a) hl (fun j hj => hs j (by omega) (by omega))
  have e2 := drop_same (a := a + 2) hl (fun j hj => hs j (by omega) (by omega))
  have g := two_split h
  have f := two_split (l := F) (a := a) (by omega)
  rw [g, f, e1, e2] at hc
  unfold crcN at hc
  simp only [List.map_append, List.map_cons] at hc
  obtain ⟨h1, h2⟩ := two_same (by omega) hc
  have k1 := byte_inj (getD_lt gl _) (getD_lt fl _) h1
  have k2 := byte_inj (getD_lt gl _) (getD_lt fl _) h2
  rw [g, e1, e2, k1, k2]; exact f.symm
theorem one_uniq {G F : List Nat} {a : Nat} (hl : G.length = F.length) (gl : ∀ x ∈ G, x < 256) (fl : ∀ x ∈ F, x < 256) (h : a < G.length) (hs : ∀ j, j ≠ a → G.getD j 0 = F.getD j 0) (hc : crcN G 65535 = crcN F 65535) : G = F := by
  have e1 := take_same (a := a) hl (fun j hj => hs j (by omega))
  have e2 := drop_same (a := a + 1) hl (fun j hj => hs j (by omega))
  have g := one_split h
  have f := one_split (l := F) (a := a) (by omega)
  rw [g, f, e1, e2] at hc
  unfold crcN at hc
  simp only [List.map_append, List.map_cons] at hc
  have h1 := one_same (by omega) hc
  have k1 := byte_inj (getD_lt gl _) (getD_lt fl _) h1
  rw [g, e1, e2, k1]; exact f.symm
end Go.Proofs.Ytklalbbacbaoiaa
