/- FnExactValidCart and FnExactBankOf: the walks of the laws. -/
import Derived.Test.YtakahaeijiadpaaCart
import Derived.Test.YtakahaeijiadpaaOpen
namespace Go.Proofs.Ytakahaeijiadpaa
open Go.ChangeShapes Go.WideShapes Go.ChangeAt Go.RowKit
open Go.Joins (open_agg2 open_agg3 open_agg4)

set_option maxHeartbeats 1000000 in
theorem lValidCart (s : ByteArray) (m : Int) (p : ByteArray) (w : World) (h1 : s.size ≤ maxLen) (h2 : p.size ≤ maxLen) :
    Calls Try.prog 4 #[cartV s m p] w fun e w' => e = .returned (.bool true) ∧ Below w.heap.size w w' := by
  by_cases hsz : ((s.size + p.size : Nat) : Int) ≤ 1048576
  · have H : 0 ≤ szR 1048576 (s.size + p.size) := szR_pos.2 hsz
    go_enter Try.func4, Try.ntmps4
    go_wp2_with (first | (go_at_call 8; refine (szCart_any s m p _ h1 h2).mono ?_; rintro e w1 ⟨rfl, hb⟩; obtain ⟨hc1, hf1⟩ := bcell hb; have hz1 : w.heap.size < w1.heap.size := (by have := hb.size; (try simp at this); omega)) | (go_at_call 10; refine (toCart_any s m p _).mono ?_; rintro e w1 ⟨rfl, hb⟩; obtain ⟨hc1, hf1⟩ := bcell hb; have hz1 : w.heap.size < w1.heap.size := (by have := hb.size; (try simp at this); omega)) | (go_at_call 9; refine (validCart_s s m p _ (by omega)).mono ?_; rintro e w1 ⟨rfl, hb⟩; obtain ⟨hc1, hf1⟩ := bcell hb; have hz1 : w.heap.size < w1.heap.size := (by have := hb.size; (try simp at this); omega)) | (go_at_call 11; refine (validCart_i s m p _ (by omega)).mono ?_; rintro e w1 ⟨rfl, hb⟩; obtain ⟨hc1, hf1⟩ := bcell hb; have hz1 : w.heap.size < w1.heap.size := (by have := hb.size; (try simp at this); omega)))
    go_ret
    exact ⟨rfl, (by repeat (first | exact Below.refl _ _ | refine Below.alloc ?_ (by first | omega | (simp; done) | (simp; omega)) _ | apply Below.drew | apply Below.drewN | refine Below.setCell ?_ (by first | omega | (simp; done) | (simp; omega)) _ | refine Below.trans ?_ (Below.mono (by assumption) (by first | omega | (simp; done) | (simp; omega)))))⟩
  · have H : szR 1048576 (s.size + p.size) < 0 := szR_neg.2 hsz
    go_enter Try.func4, Try.ntmps4
    go_wp2_with (first | (go_at_call 8; refine (szCart_any s m p _ h1 h2).mono ?_; rintro e w1 ⟨rfl, hb⟩; obtain ⟨hc1, hf1⟩ := bcell hb; have hz1 : w.heap.size < w1.heap.size := (by have := hb.size; (try simp at this); omega)) | (go_at_call 10; refine (toCart_any s m p _).mono ?_; rintro e w1 ⟨rfl, hb⟩; obtain ⟨hc1, hf1⟩ := bcell hb; have hz1 : w.heap.size < w1.heap.size := (by have := hb.size; (try simp at this); omega)))
    go_ret
    exact ⟨rfl, (by repeat (first | exact Below.refl _ _ | refine Below.alloc ?_ (by first | omega | (simp; done) | (simp; omega)) _ | apply Below.drew | apply Below.drewN | refine Below.setCell ?_ (by first | omega | (simp; done) | (simp; omega)) _ | refine Below.trans ?_ (Below.mono (by assumption) (by first | omega | (simp; done) | (simp; omega)))))⟩

set_option maxHeartbeats 1000000 in
theorem lBankOf (s : ByteArray) (m : Int) (p : ByteArray) (k : Int) (w : World) (h1 : s.size ≤ maxLen) (h2 : p.size ≤ maxLen) :
    Calls Try.prog 5 #[cartV s m p, .int .i64 k] w fun e w' => e = .returned (.bool true) ∧ Below w.heap.size w w' := by
  by_cases hsz : ((s.size + p.size : Nat) : Int) ≤ 1048576
  · have H : 0 ≤ szR 1048576 (s.size + p.size) := szR_pos.2 hsz
    go_enter Try.func5, Try.ntmps5
    go_wp2_with (first | (go_at_call 8; refine (szCart_any s m p _ h1 h2).mono ?_; rintro e w1 ⟨rfl, hb⟩; obtain ⟨hc1, hf1⟩ := bcell hb; have hz1 : w.heap.size < w1.heap.size := (by have := hb.size; (try simp at this); omega)) | (go_at_call 10; refine (toCart_any s m p _).mono ?_; rintro e w1 ⟨rfl, hb⟩; obtain ⟨hc1, hf1⟩ := bcell hb; have hz1 : w.heap.size < w1.heap.size := (by have := hb.size; (try simp at this); omega)) | (go_at_call 12; refine (bankOf_s s m p k _ (by omega)).mono ?_; rintro e w1 ⟨rfl, hb⟩; obtain ⟨hc1, hf1⟩ := bcell hb; have hz1 : w.heap.size < w1.heap.size := (by have := hb.size; (try simp at this); omega)) | (go_at_call 13; refine (bankOf_i s m p k _ (by omega)).mono ?_; rintro e w1 ⟨rfl, hb⟩; obtain ⟨hc1, hf1⟩ := bcell hb; have hz1 : w.heap.size < w1.heap.size := (by have := hb.size; (try simp at this); omega)))
    go_ret
    exact ⟨rfl, (by repeat (first | exact Below.refl _ _ | refine Below.alloc ?_ (by first | omega | (simp; done) | (simp; omega)) _ | apply Below.drew | apply Below.drewN | refine Below.setCell ?_ (by first | omega | (simp; done) | (simp; omega)) _ | refine Below.trans ?_ (Below.mono (by assumption) (by first | omega | (simp; done) | (simp; omega)))))⟩
  · have H : szR 1048576 (s.size + p.size) < 0 := szR_neg.2 hsz
    go_enter Try.func5, Try.ntmps5
    go_wp2_with (first | (go_at_call 8; refine (szCart_any s m p _ h1 h2).mono ?_; rintro e w1 ⟨rfl, hb⟩; obtain ⟨hc1, hf1⟩ := bcell hb; have hz1 : w.heap.size < w1.heap.size := (by have := hb.size; (try simp at this); omega)) | (go_at_call 10; refine (toCart_any s m p _).mono ?_; rintro e w1 ⟨rfl, hb⟩; obtain ⟨hc1, hf1⟩ := bcell hb; have hz1 : w.heap.size < w1.heap.size := (by have := hb.size; (try simp at this); omega)))
    go_ret
    exact ⟨rfl, (by repeat (first | exact Below.refl _ _ | refine Below.alloc ?_ (by first | omega | (simp; done) | (simp; omega)) _ | apply Below.drew | apply Below.drewN | refine Below.setCell ?_ (by first | omega | (simp; done) | (simp; omega)) _ | refine Below.trans ?_ (Below.mono (by assumption) (by first | omega | (simp; done) | (simp; omega)))))⟩

section
variable {H : Type} {enc : TypeId × Value → H} {W : World} {base : Nat} {v : Value} {d : DataW H} {p : List MemPlace}
theorem o_cart (e : Value.okWide Try.prog W .any base 25 v) (h : DataW.Trod enc Try.prog W 0 (fun _ => true) true 25 v d p) : ∃ s m p, v = cartV s m p ∧ s.size ≤ maxLen ∧ p.size ≤ maxLen := by
  obtain ⟨c0, c1, c2, y0, y1, y2, n, rfl, _, _, hy0, hy1, hy2⟩ := open_agg3 Try.underlying25 (by kernel_rfl) (by kernel_rfl) e h
  obtain ⟨s, e0, _, w0⟩ := DataW.trod_string Try.underlying9 hy0
  obtain ⟨m, e1, _, _⟩ := DataW.trod_int Try.underlying2 hy1
  obtain ⟨q, e2, _, w2⟩ := DataW.trod_string Try.underlying9 hy2
  simp at e0 e1 e2
  subst e0 e1 e2
  exact ⟨s, m, q, rfl, w0, w2⟩
end
end Go.Proofs.Ytakahaeijiadpaa
