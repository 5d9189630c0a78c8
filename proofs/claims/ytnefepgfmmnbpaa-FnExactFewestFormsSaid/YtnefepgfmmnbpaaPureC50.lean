/- Within bounds, by the program and by the reference. -/
import Derived.Test.YtnefepgfmmnbpaaQ1
import Derived.Test.YtnefepgfmmnbpaaQ3
import Derived.Test.YtnefepgfmmnbpaaPure0
set_option linter.unusedVariables false
set_option linter.unusedSimpArgs false
namespace Go.Proofs.Ytnefepgfmmnbpaa.Pure
open Go.RowKit Go.Proofs.Ytnefepgfmmnbpaa.Q Go.Proofs.YtnefepgfmmnbpaaMine Go.Proofs.YtnefepgfmmnbpaaW.PrintWords Go.Proofs.YtnefepgfmmnbpaaW.PrintMore
theorem within_eq (a b c : Int) : impl_within.f a b c = some (inR a b c) := by
 unfold impl_within.f; exact inR_some _ _ _
theorem l00In_eq (a b c : Int) : spec_l00In.f a b c = some (inR a b c) := by
 unfold spec_l00In.f; exact inR_some _ _ _
end Go.Proofs.Ytnefepgfmmnbpaa.Pure
