/- The copies and sizes of a law's lists of whole numbers. -/
import Derived.Test.YtdeipindfhkioaaQ1
import Derived.Test.YtdeipindfhkioaaPureCpInt64
set_option linter.unusedVariables false
set_option linter.unusedSimpArgs false
namespace Go.Proofs.Ytdeipindfhkioaa.Pure
open Go.RowKit Go.Proofs.Ytdeipindfhkioaa.Q Go.Proofs.YtdeipindfhkioaaMine Go.Proofs.YtdeipindfhkioaaW.PrintWords
end Go.Proofs.Ytdeipindfhkioaa.Pure
