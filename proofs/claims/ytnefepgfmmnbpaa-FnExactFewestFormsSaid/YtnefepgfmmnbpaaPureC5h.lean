/- Ways of rounding. -/
import Derived.Test.YtnefepgfmmnbpaaQ4
import Derived.Test.YtnefepgfmmnbpaaPureC50
set_option linter.unusedVariables false
set_option linter.unusedSimpArgs false
namespace Go.Proofs.Ytnefepgfmmnbpaa.Pure
open Go.RowKit Go.Proofs.Ytnefepgfmmnbpaa.Q Go.Proofs.YtnefepgfmmnbpaaMine Go.Proofs.YtnefepgfmmnbpaaW.PrintWords Go.Proofs.YtnefepgfmmnbpaaW.PrintMore
theorem isWay_eq (how : Int) : impl_isWay.f how = some (inR how 0 3) := by unfold impl_isWay.f; rw [within_eq]; rfl
end Go.Proofs.Ytnefepgfmmnbpaa.Pure
