/- isGroup23, l23Group: the walks. -/
import Derived.Test.YtkdadaocbfbndaaBytes
import Derived.Test.YtkdadaocbfbndaaWord
namespace Go.Proofs.Ytkdadaocbfbndaa
set_option linter.unusedVariables false
open Go.RowKit

/-- a slice that reads as the strings l -/
def StrL (w : World) (v : Value) (l : List ByteArray) : Prop := ∃ A c, v = .slice A l.length c ∧ (l = [] ∨ ∃ g, A = some ⟨g, 0, none⟩ ∧ g < w.heap.size ∧ ∀ k s, l[k]? = some s → w.cell? ⟨g, k, none⟩ = some (.string s))
theorem StrL.below {w w' : World} {v : Value} {l : List ByteArray} {K : Nat} (h : StrL w v l) (hb : Below K w w') (hK : w.heap.size ≤ K) : StrL w' v l := by
  obtain ⟨A, c, rfl, h⟩ := h
  refine ⟨A, c, rfl, ?_⟩
  rcases h with h | ⟨g, rfl, hg, hc⟩
  · exact .inl h
  · exact .inr ⟨g, rfl, Nat.lt_of_lt_of_le hg hb.size, fun k s hk => (hb.cell (p := ⟨g, k, none⟩) (by show g < K; omega)).trans (hc k s hk)⟩
theorem StrL.chg {B E : Nat} {w w' : World} {v : Value} {l : List ByteArray} (h : StrL w v l) (hb : Chg B E w w') (hB : w.heap.size ≤ B) : StrL w' v l :=
  h.below ⟨hb.os, hb.tape, hb.output, hb.size, fun k hk => hb.block k hk (by omega)⟩ (Nat.le_refl _)
def idxN (n : Nat) : Nat → List ByteArray → Int
  | _, [] => -1
  | k, s :: r => if s.size = n then idxN n (k + 1) r else k
theorem idxN_all (n k : Nat) (l : List ByteArray) : decide (0 ≤ idxN n k l) = !(l.all fun s => decide (s.size = n)) := by
  induction l generalizing k with
  | nil => rfl
  | cons s r ih =>
    unfold idxN
    by_cases h : s.size = n
    · rw [if_pos h, ih, List.all_cons, decide_eq_true h, Bool.true_and]
    · rw [if_neg h, List.all_cons, decide_eq_false h]; simp
def sizesAre (n : Nat) (l : List ByteArray) : Bool := l.all fun s => decide (s.size = n)
/-- these strings are a group of strings of size n -/
def groupB (l : List ByteArray) : Bool := match l with
  | [] => false
  | s :: _ => decide (l.length ≤ 128) && (decide (1 ≤ s.size) && decide (s.size ≤ 64)) && sizesAre s.size l
theorem idx_yes {n k : Nat} {l : List ByteArray} {s : ByteArray} (hs : l[k]? = some s) (H : Hid (idxN n 0 l = idxN n k (l.drop k))) (h : s.size = n) : Hid (idxN n 0 l = idxN n (k + 1) (l.drop (k + 1))) := by
  obtain ⟨hk, rfl⟩ := List.getElem?_eq_some_iff.1 hs
  exact Lib.hid (by rw [H.out, List.drop_eq_getElem_cons hk, idxN, if_pos h])
theorem idx_no {n k : Nat} {l : List ByteArray} {s : ByteArray} (hs : l[k]? = some s) (H : Hid (idxN n 0 l = idxN n k (l.drop k))) (h : ¬ s.size = n) : idxN n 0 l = k := by
  obtain ⟨hk, rfl⟩ := List.getElem?_eq_some_iff.1 hs
  rw [H.out, List.drop_eq_getElem_cons hk, idxN, if_neg h]
set_option maxHeartbeats 1000000 in
theorem index_i (bx g c : Nat) (l : List ByteArray) (s0 : ByteArray) (w : World) (hm : l.length ≤ maxLen) (hbx : w.cell? ⟨bx, 0, none⟩ = some (.slice (some ⟨g, 0, none⟩) l.length c)) (h0 : l[0]? = some s0)
    (hc : ∀ k s, l[k]? = some s → w.cell? ⟨g, k, none⟩ = some (.string s)) :
    Calls Try.prog 74 #[.slice (some ⟨g, 0, none⟩) l.length c, .func (.func 61) #[] #[.pointer (some ⟨bx, 0, none⟩)]] w fun e w' => e = .returned (.int .i64 (idxN s0.size 0 l)) ∧ w = w' := by
  unfold maxLen at hm
  have hl0 : 0 < l.length := (List.getElem?_eq_some_iff.1 h0).1
  have p0 := hc 0 s0 h0
  have HC := Lib.hid hc
  clear h0 hc
  go_enter Try.func74, Try.ntmps74
  go_wp2
  go_loop [8] (fun i => ∃ k : Nat, k ≤ l.length ∧ i = .int .i64 k ∧ Hid (idxN s0.size 0 l = idxN s0.size k (l.drop k))) (fun i => l.length - (intOf i).toNat)
  case atStart => exact ⟨0, by omega, rfl, Lib.hid rfl⟩
  case round =>
    obtain ⟨k, hk, rfl, HK⟩ := hrel
    by_cases hlt : k < l.length
    · obtain ⟨s, hs⟩ : ∃ s, l[k]? = some s := ⟨l[k], List.getElem?_eq_getElem hlt⟩
      have pk := HC.out k s hs
      have HS := Lib.hid hs
      clear hs
      by_cases hsz : s.size = s0.size
      · have hd : ((s.size : Int) != (s0.size : Int)) = false := by simp [hsz]
        have HX := Lib.hid hsz
        clear hsz
        go_wp2
        go_round
        case rel => exact ⟨k + 1, by omega, by go_num, idx_yes HS.out HK HX.out⟩
        case measure => simp [intOf]; omega
      · have hd : ((s.size : Int) != (s0.size : Int)) = true := by simp; omega
        have HX := Lib.hid hsz
        clear hsz
        go_wp2
        go_ret
        exact ⟨ret_int (idx_no HS.out HK HX.out).symm, rfl⟩
    · go_wp2
      go_ret
      exact ⟨ret_int (by rw [HK.out, List.drop_of_length_le (by omega)]; rfl), rfl⟩
end Go.Proofs.Ytkdadaocbfbndaa
