/- The sum of values, by the reference. -/
import Derived.Test.YtehphbaobhnfjaaQ16
import Derived.Test.YtehphbaobhnfjaaPureC5w
set_option linter.unusedVariables false
set_option linter.unusedSimpArgs false
namespace Go.Proofs.Ytehphbaobhnfjaa.Pure
open Go.RowKit Go.Proofs.Ytehphbaobhnfjaa.Q Go.Proofs.YtehphbaobhnfjaaMine Go.Proofs.YtehphbaobhnfjaaW.PrintWords Go.Proofs.YtehphbaobhnfjaaW.PrintMore
theorem specWor {m : List (S43)} (hm : m.length ≤ 2097152) : Ev (fun k => spec_l05Worth.f k m) (wor m) := by
  unfold spec_l05Worth.f wor
  refine fold_all (fun k s i => spec_l05Worth.l0 k m s i) m z43 (by omega) _ id (fun k s i h0 h1 => ?_) 0
  simp only [spec_l05Worth.l0]
  by_cases hi : i < (m.length : Int)
  · simp only [if_pos hi, if_pos h0]; rfl
  · simp only [if_neg hi]; rfl
end Go.Proofs.Ytehphbaobhnfjaa.Pure
