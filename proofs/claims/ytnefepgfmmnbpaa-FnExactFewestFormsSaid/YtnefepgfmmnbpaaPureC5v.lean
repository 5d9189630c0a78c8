/- The sum of values, by the reference. -/
import Derived.Test.YtnefepgfmmnbpaaQ2
import Derived.Test.YtnefepgfmmnbpaaPureC5w
set_option linter.unusedVariables false
set_option linter.unusedSimpArgs false
namespace Go.Proofs.Ytnefepgfmmnbpaa.Pure
open Go.RowKit Go.Proofs.Ytnefepgfmmnbpaa.Q Go.Proofs.YtnefepgfmmnbpaaMine Go.Proofs.YtnefepgfmmnbpaaW.PrintWords Go.Proofs.YtnefepgfmmnbpaaW.PrintMore
theorem specWor {m : List (S54)} (hm : m.length ≤ 2097152) : Ev (fun k => spec_l05Worth.f k m) (wor m) := by
 unfold spec_l05Worth.f wor
 refine fold_all (fun k s i => spec_l05Worth.l0 k m s i) m z54 (by omega) _ id (fun k s i h0 h1 => ?_) 0
 simp only [spec_l05Worth.l0]
 by_cases hi : i < (m.length : Int)
 ·simp only [if_pos hi, if_pos h0]; rfl
 ·simp only [if_neg hi]; rfl
end Go.Proofs.Ytnefepgfmmnbpaa.Pure
