/- Within bounds, by the program and by the reference. -/
import Derived.Test.YtdeipindfhkioaaQ2
import Derived.Test.YtdeipindfhkioaaQ7
import Derived.Test.YtdeipindfhkioaaPure0
set_option linter.unusedVariables false
set_option linter.unusedSimpArgs false
namespace Go.Proofs.Ytdeipindfhkioaa.Pure
open Go.RowKit Go.Proofs.Ytdeipindfhkioaa.Q Go.Proofs.YtdeipindfhkioaaMine Go.Proofs.YtdeipindfhkioaaW.PrintWords Go.Proofs.YtdeipindfhkioaaW.PrintMore
theorem within_eq (a b c : Int) : impl_within.f a b c = some (inR a b c) := by
 unfold impl_within.f; exact inR_some _ _ _
theorem l00In_eq (a b c : Int) : spec_l00In.f a b c = some (inR a b c) := by
 unfold spec_l00In.f; exact inR_some _ _ _
end Go.Proofs.Ytdeipindfhkioaa.Pure
