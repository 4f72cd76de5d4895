/- LedgerFits, impl and spec: the walks, and the law. -/
import Derived.Test.YtkpjjohanbiagaaDoorBrokenL
namespace Go.Proofs.YtkpjjohanbiagaaDoor
set_option linter.unusedVariables false
set_option linter.unusedSimpArgs false
open Go.RowKit

theorem check_i (s : ByteArray) (w : World) (hs : s.size ≤ 2097152) : Calls Tryd.prog 47 #[.string s] w fun e w' => e = .returned (.int .i64 (crcB s)) ∧ w = w' := by
  go_enter Tryd.func47, Tryd.ntmps47
  go_wp2_with (go_at_call 70; refine (crcS_i s w hs).mono ?_; rintro e w1 ⟨rfl, rfl⟩)
  go_ret
  exact ⟨rfl, rfl⟩
theorem check_s (s : ByteArray) (w : World) (hs : s.size ≤ 2097152) : Calls Tryd.prog 83 #[.string s] w fun e w' => e = .returned (.int .i64 (crcB s)) ∧ w = w' := by
  go_enter Tryd.func83, Tryd.ntmps83
  go_wp2_with (go_at_call 97; refine (crcS_s s w hs).mono ?_; rintro e w1 ⟨rfl, rfl⟩)
  go_ret
  exact ⟨rfl, rfl⟩
def fits (l : List Ent) (a b : ByteArray) : Bool :=
  ledgerOk l && (if l.length = 0 then a.toList == b.toList else ((l.headD default).before == (crcB a : Int)) && ((l.getD (l.length - 1) default).after == (crcB b : Int)))
theorem fits_no {l : List Ent} {a b : ByteArray} (h : ledgerOk l = false) : fits l a b = false := by simp [fits, h]
theorem fits_nil {a b : ByteArray} : fits [] a b = (a.toList == b.toList) := by simp [fits, show ledgerOk [] = true from rfl]
theorem fits_some {l : List Ent} {a b : ByteArray} (h : ledgerOk l = true) (h0 : l.length ≠ 0) : fits l a b = (((l.headD default).before == (crcB a : Int)) && ((l.getD (l.length - 1) default).after == (crcB b : Int))) := by simp [fits, h, h0]

end Go.Proofs.YtkpjjohanbiagaaDoor
