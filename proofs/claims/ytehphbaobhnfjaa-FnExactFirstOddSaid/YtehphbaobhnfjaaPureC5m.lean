/- What can be declared. -/
import Derived.Test.YtehphbaobhnfjaaQ6
import Derived.Test.YtehphbaobhnfjaaPureC50
set_option linter.unusedVariables false
set_option linter.unusedSimpArgs false
namespace Go.Proofs.Ytehphbaobhnfjaa.Pure
open Go.RowKit Go.Proofs.Ytehphbaobhnfjaa.Q Go.Proofs.YtehphbaobhnfjaaMine Go.Proofs.YtehphbaobhnfjaaW.PrintWords Go.Proofs.YtehphbaobhnfjaaW.PrintMore
theorem decl_eq (n : Int) : spec_l05Declared.f n = some (inR n 0 1000000) := by unfold spec_l05Declared.f; rw [l00In_eq]; rfl
end Go.Proofs.Ytehphbaobhnfjaa.Pure
