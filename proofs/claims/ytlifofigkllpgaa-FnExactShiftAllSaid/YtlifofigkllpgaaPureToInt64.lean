/- The copies and sizes of a law's lists of whole numbers. -/
import Derived.Test.YtlifofigkllpgaaQ1
import Derived.Test.YtlifofigkllpgaaPureCpInt64
set_option linter.unusedVariables false
set_option linter.unusedSimpArgs false
namespace Go.Proofs.Ytlifofigkllpgaa.Pure
open Go.RowKit Go.Proofs.Ytlifofigkllpgaa.Q Go.Proofs.YtlifofigkllpgaaMine Go.Proofs.YtlifofigkllpgaaW.PrintWords
theorem szInt64S (x : List Int) (hx : x.length ≤ 140737488351232) (left : Int) (h0 : 0 ≤ left) (h1 : left ≤ 1048576) : laws_szInt64S.f x left = some (if left - (x.length : Int) < 0 then -1 else left - (x.length : Int)) := by
  unfold laws_szInt64S.f
  rw [sz_eq _ hx _ h0 h1]
  split <;> rfl
end Go.Proofs.Ytlifofigkllpgaa.Pure
