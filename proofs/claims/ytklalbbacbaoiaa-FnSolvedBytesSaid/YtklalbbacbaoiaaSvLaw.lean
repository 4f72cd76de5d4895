/- Solving: plain laws of two bytes. -/
import Derived.Test.YtklalbbacbaoiaaSolP
import Derived.Test.YtklalbbacbaoiaaA2U
namespace Go.Proofs.Ytklalbbacbaoiaa
set_option linter.unusedVariables false
open Go.RowKit
theorem byte_bits {x y : Nat} (hx : x < 256) (hy : y < 256) (h : ∀ r, r < 8 → x.testBit (7 - r) = y.testBit (7 - r)) : x = y := by
  refine Nat.eq_of_testBit_eq fun i => ?_
  by_cases hi : i < 8
  · have := h (7 - i) (by omega)
    rwa [show 7 - (7 - i) = i by omega] at this
  · have p : 2 ^ 8 ≤ 2 ^ i := Nat.pow_le_pow_right (by omega) (by omega)
    rw [Nat.testBit_lt_two_pow (Nat.lt_of_lt_of_le hx p), Nat.testBit_lt_two_pow (Nat.lt_of_lt_of_le hy p)]
theorem exN_in {pl : List Nat} {c : Nat} (h : c ∈ exN pl (8 * pl.length)) : c / 8 ∈ pl := by
  obtain ⟨j, hj, rfl⟩ := List.mem_map.1 h
  have hj' := List.mem_range.1 hj
  rw [show (8 * pl.getD (j / 8) 0 + j % 8) / 8 = pl.getD (j / 8) 0 by omega]
  exact getD_mem (by omega)
/-- bytes outside of the places agree -/
theorem agr_off {l pl F : List Nat} (hl : ∀ x ∈ l, x < 256) (h : Agr l (exN pl (8 * pl.length)) F) {j : Nat} (hj : j ∉ pl) : F.getD j 0 = l.getD j 0 := by
  by_cases hjl : j < l.length
  · refine byte_bits (getD_lt h.lt _) (getD_lt hl _) fun r hr => ?_
    have := h.off (8 * j + r) (by omega) (fun hc => hj (by have := exN_in hc; rwa [show (8 * j + r) / 8 = j by omega] at this))
    unfold bitAt at this
    rwa [show (8 * j + r) / 8 = j by omega, show (8 * j + r) % 8 = r by omega] at this
  · rw [List.getD_eq_getElem?_getD, List.getElem?_eq_none (by rw [h.len]; omega), List.getD_eq_getElem?_getD, List.getElem?_eq_none (by omega)]
theorem exN_at {pl : List Nat} {c : Nat} (h : c / 8 ∈ pl) : c ∈ exN pl (8 * pl.length) := by
  obtain ⟨k, hk, e⟩ := List.getElem_of_mem h
  refine List.mem_map.2 ⟨8 * k + c % 8, List.mem_range.2 (by omega), ?_⟩
  rw [show (8 * k + c % 8) / 8 = k by omega, List.getD_eq_getElem?_getD, List.getElem?_eq_getElem hk, Option.getD_some, e]; omega
/-- a fill that alone has the check value is found -/
theorem uniq_fill {l U F : List Nat} {c : Nat} {o : Option (List Rw)} (hl : ∀ y ∈ l, y < 256) (hn : U.Nodup) (hub : ∀ b ∈ U, b < 8 * l.length) (h64 : U.length ≤ 64) (hF : Agr l U F) (hc : crcN F 65535 = c) (hu : ∀ G, Agr l U G → crcN G 65535 = c → G = F)
    (ho : redS (rowsR l.length U (crcN (clrN l U) 65535 ^^^ c)) = o) : ∃ b, o = some b ∧ ¬ b.length < U.length ∧ fillN l U (comp low b 0).testBit = F := by
  have hclt : c < 65536 := by rw [← hc]; exact crcN_lt _ _ (by omega)
  have hok := redS_ok h64 (rowsR_lt l.length U (crcN (clrN l U) 65535 ^^^ c)) ho
  cases o with
  | none =>
    have hx : F = fillN l U (fun k => bitAt F (U.getD k 0)) := hF.is hl hn hub fun k _ => rfl
    exact absurd ((fill_sol hub h64 hclt _).2 (by rw [← hx]; exact hc)) (hok _)
  | some b =>
    obtain ⟨k1, _, k3, k4, k5⟩ := hok
    have hm := fun G => mem_fills (F := G) hl hn hub h64 hclt k1 k3 k4 (freU low b U.length)
    have hfl := free_len k1 (red_plt k1 k3)
    refine ⟨b, rfl, fun hlt => ?_, hu _ (Agr.fill hl hub) ((fill_sol hub h64 hclt _).1 ((k4 _).1 (comp_sol k1 fun k _ => Nat.zero_testBit k)))⟩
    have hp : 1 < 2 ^ (freeU low b U.length).length := by
      have := Nat.pow_le_pow_right (n := 2) (by omega) (show 1 ≤ (freeU low b U.length).length by omega); omega
    have h0 := (hm _).1 ⟨0, by omega, rfl⟩
    have h1 := (hm _).1 ⟨1, hp, rfl⟩
    have := fillOf_inj hn hub (freU low b U.length) (n := 0) (m := 1) (by omega) hp ((hu _ h0.1 h0.2).trans (hu _ h1.1 h1.2).symm)
    cases this
/-- two neighbouring bytes, or the last one, are solved -/
theorem solved_law {s : ByteArray} {bl pl : List Nat} {a : Nat} (h1 : 1 ≤ s.size) (h2 : s.size ≤ 64) (ha : a < s.size) (hpl : pl = if a + 1 < s.size then [a, a + 1] else [a]) (hlen : bl.length = s.size) (hlt : ∀ x ∈ bl, x < 256) (hsame : ∀ j, j ∉ pl → bl.getD j 0 = (bts s).getD j 0) :
    sbV (strN bl) (intsN pl) (crcN (bts s) 65535 : Nat) = .tuple #[.string s, .int .i64 0] := by
  have hbt := bts_strN hlt
  have hsz : (strN bl).size = s.size := by rw [strN_size, hlen]
  have hpm : ∀ p ∈ pl, p < (strN bl).size := by
    intro p hp; rw [hsz]; rw [hpl] at hp
    split at hp <;> simp at hp <;> omega
  have hps : pl.Pairwise (· < ·) := by rw [hpl]; split <;> simp
  have hpl8 : pl.length ≤ 2 := by rw [hpl]; split <;> simp
  have hcl := crcN_lt (bts s) 65535 (by omega)
  have hok : sbOk (strN bl) (intsN pl) (crcN (bts s) 65535 : Nat) = true := by
    unfold sbOk
    rw [hsz, inB_t (by omega), inB_t (by omega), decide_eq_true (by rw [intsN_len]; omega), show risesB 0 ((s.size : Int) - 1) (intsN pl) = true from rises_of (fun x hx => by obtain ⟨z, hz, rfl⟩ := List.mem_map.1 hx; have := hpm z hz; omega) (List.pairwise_map.2 (hps.imp fun h => by omega)) (fun y hy => by cases hy)]; rfl
  have hUn : (exN pl (8 * pl.length)).Nodup := (exN_srt hps).imp fun h => Nat.ne_of_lt h
  have hUb : ∀ b ∈ exN pl (8 * pl.length), b < 8 * (bts (strN bl)).length := fun b hb => by rw [bts_len]; exact exN_mem hpm hb
  have hU64 : (exN pl (8 * pl.length)).length ≤ 64 := by rw [exN_len]; omega
  have hA : Agr (bts (strN bl)) (exN pl (8 * pl.length)) (bts s) := ⟨by rw [bts_len, bts_len, hsz], bts_lt, fun c hc hn => by
    have : c / 8 ∉ pl := fun h => hn (exN_at h)
    unfold bitAt; rw [hbt, hsame _ this]⟩
  have hu : ∀ G, Agr (bts (strN bl)) (exN pl (8 * pl.length)) G → crcN G 65535 = crcN (bts s) 65535 → G = bts s := fun G hG hc => by
    have hl : G.length = (bts s).length := hG.len.trans (by rw [bts_len, bts_len, hsz])
    have hoff : ∀ j, j ∉ pl → G.getD j 0 = (bts s).getD j 0 := fun j hj => (agr_off bts_lt hG hj).trans (by rw [hbt]; exact hsame j hj)
    have hgl : G.length = s.size := hl.trans (bts_len s)
    by_cases h2 : a + 1 < s.size
    · rw [if_pos h2] at hpl
      exact two_uniq (a := a) hl hG.lt bts_lt (by omega) (fun j h1 h2 => hoff j (by rw [hpl]; simp [h1, h2])) hc
    · rw [if_neg h2] at hpl
      exact one_uniq (a := a) hl hG.lt bts_lt (by omega) (fun j h1 => hoff j (by rw [hpl]; simp [h1])) hc
  obtain ⟨b, e1, e2, e3⟩ := uniq_fill bts_lt hUn hUb hU64 hA rfl hu rfl
  rw [sbV_yes hok]
  have e4 : redS (rowsOf (strN bl) (exN pl (8 * pl.length)) (crcN (bts s) 65535)) = some b := by
    rw [← e1]; unfold rowsOf restOf; rw [bts_len]
  rw [e4]
  unfold sbR
  simp only [if_neg e2, e3, strN_bts]

end Go.Proofs.Ytklalbbacbaoiaa
