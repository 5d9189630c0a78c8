/- What can be declared. -/
import Derived.Test.YtnefepgfmmnbpaaQ1
import Derived.Test.YtnefepgfmmnbpaaPureC50
set_option linter.unusedVariables false
set_option linter.unusedSimpArgs false
namespace Go.Proofs.Ytnefepgfmmnbpaa.Pure
open Go.RowKit Go.Proofs.Ytnefepgfmmnbpaa.Q Go.Proofs.YtnefepgfmmnbpaaMine Go.Proofs.YtnefepgfmmnbpaaW.PrintWords Go.Proofs.YtnefepgfmmnbpaaW.PrintMore
theorem decl_eq (n : Int) : spec_l05Declared.f n = some (inR n 0 1000000) := by unfold spec_l05Declared.f; rw [l00In_eq]; rfl
end Go.Proofs.Ytnefepgfmmnbpaa.Pure
