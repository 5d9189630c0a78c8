/- Decimal texts by the program. -/
import Derived.Test.YtdeipindfhkioaaDoorQ5
import Derived.Test.YtdeipindfhkioaaDoorPureCText
set_option linter.unusedVariables false
set_option linter.unusedSimpArgs false
namespace Go.Proofs.YtdeipindfhkioaaDoor.Pure
open Go.RowKit Go.Proofs.YtdeipindfhkioaaDoor.Q Go.Proofs.YtdeipindfhkioaaDoorMine Go.Proofs.YtdeipindfhkioaaDoorW.PrintWords
theorem implDecimal {n : Int} (h0 : 0 ≤ n) (h1 : n ≤ 9223372036854775807) : impl_decimal.f n = some (bsOf (Lib.decDigits n.toNat)) := by
 unfold impl_decimal.f f7z.f
 rw [if_pos rfl, if_pos (by omega), itoa_dec h0]; rfl
end Go.Proofs.YtdeipindfhkioaaDoor.Pure
