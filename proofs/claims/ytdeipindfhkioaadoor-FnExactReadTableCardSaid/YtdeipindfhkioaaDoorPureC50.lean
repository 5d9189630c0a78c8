/- Within bounds, by the program and by the reference. -/
import Derived.Test.YtdeipindfhkioaaDoorQ1
import Derived.Test.YtdeipindfhkioaaDoorQ4
import Derived.Test.YtdeipindfhkioaaDoorPure0
set_option linter.unusedVariables false
set_option linter.unusedSimpArgs false
namespace Go.Proofs.YtdeipindfhkioaaDoor.Pure
open Go.RowKit Go.Proofs.YtdeipindfhkioaaDoor.Q Go.Proofs.YtdeipindfhkioaaDoorMine Go.Proofs.YtdeipindfhkioaaDoorW.PrintWords Go.Proofs.YtdeipindfhkioaaDoorW.PrintMore
theorem within_eq (a b c : Int) : impl_within.f a b c = some (inR a b c) := by
 unfold impl_within.f; exact inR_some _ _ _
theorem l00In_eq (a b c : Int) : spec_l00In.f a b c = some (inR a b c) := by
 unfold spec_l00In.f; exact inR_some _ _ _
end Go.Proofs.YtdeipindfhkioaaDoor.Pure
