/- chosen, once for each condition: the walks. -/
import Derived.Test.YtignjjkldmninaaKind
import Derived.Test.YtignjjkldmninaaHInt64
namespace Go.Proofs.Ytignjjkldmninaa
set_option linter.unusedVariables false
open Go.RowKit
theorem bcellOf {w w' : World} {a : Addr} {v : Value} (hb : Below w.heap.size w w') (h : w.cell? a = some v) : w'.cell? a = some v := (hb.cell (World.block_lt_of_cell? w a h)).trans h
def lackB (g : List ByteArray) : Bool := g.length == 0
def confB (g : List ByteArray) : Bool := !kindF g
def commB (n : Nat) (g : List ByteArray) : Bool := g.length == n && kindF g
theorem lack_c (B : Nat) (l : List ByteArray) (v : Value) (w : World) (h : StringL B w v l) (hn : l.length ≤ 1048576) :
    Calls Try.prog 89 #[v] w fun e w' => e = .returned (.bool (lackB l)) ∧ Below w.heap.size w w' := by
  obtain ⟨A, c, rfl, hA⟩ := h.shape
  clear h hA
  unfold lackB
  by_cases hl : l.length = 0
  · have hd : ((l.length : Int) == 0) = true := by simp [hl]
    have he : (l.length == 0) = true := by simp [hl]
    go_enter Try.func89, Try.ntmps89
    go_wp2
    go_ret
    exact ⟨ret_bool he.symm, Below.refl _ _⟩
  · have hd : ((l.length : Int) == 0) = false := by rw [beq_eq_false_iff_ne]; omega
    have he : (l.length == 0) = false := by rw [beq_eq_false_iff_ne]; omega
    go_enter Try.func89, Try.ntmps89
    go_wp2
    go_ret
    exact ⟨ret_bool he.symm, Below.refl _ _⟩
theorem conf_c (B : Nat) (l : List ByteArray) (v : Value) (w : World) (h : StringL B w v l) (hn : l.length ≤ 1048576) :
    Calls Try.prog 93 #[v] w fun e w' => e = .returned (.bool (confB l)) ∧ Below w.heap.size w w' := by
  have HK := Lib.hid (kind_i B l v w h hn)
  obtain ⟨A, c, rfl, hA⟩ := h.shape
  clear h hA
  unfold confB
  go_enter Try.func93, Try.ntmps93
  go_wp2_with (fail)
  refine HK.out.mono ?_; rintro e w1 ⟨rfl, hb1⟩
  go_wp2
  go_ret
  exact ⟨rfl, hb1⟩
theorem comm_c (B bx n cc : Nat) (AA : Option Addr) (l : List ByteArray) (v : Value) (w : World) (h : StringL B w v l) (hn : l.length ≤ 1048576) (hx : w.cell? ⟨bx, 0, none⟩ = some (.slice AA n cc)) :
    Calls Try.prog 91 #[v, .pointer (some ⟨bx, 0, none⟩)] w fun e w' => e = .returned (.bool (commB n l)) ∧ Below w.heap.size w w' := by
  have HK := Lib.hid (kind_i B l v w h hn)
  obtain ⟨A, c, rfl, hA⟩ := h.shape
  clear h hA
  unfold commB
  by_cases hl : l.length = n
  · subst hl
    have hd : ((l.length : Int) == (l.length : Int)) = true := by simp
    have he : (l.length == l.length) = true := by simp
    go_enter Try.func91, Try.ntmps91
    go_wp2_with (fail)
    refine HK.out.mono ?_; rintro e w1 ⟨rfl, hb1⟩
    go_wp2
    go_ret
    refine ⟨?_, hb1⟩
    rw [he, Bool.true_and]
    rfl
  · have hd : ((l.length : Int) == (n : Int)) = false := by rw [beq_eq_false_iff_ne]; omega
    have he : (l.length == n) = false := by rw [beq_eq_false_iff_ne]; omega
    go_enter Try.func91, Try.ntmps91
    go_wp2
    go_ret
    refine ⟨?_, Below.refl _ _⟩
    rw [he, Bool.false_and]
    rfl
end Go.Proofs.Ytignjjkldmninaa
