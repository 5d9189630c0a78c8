/- DutyOfLine: the reference and the program. -/
import Derived.Test.YtehphbaobhnfjaaQ27
import Derived.Test.YtehphbaobhnfjaaPureADutyOf
import Derived.Test.YtehphbaobhnfjaaPureC5o
set_option linter.unusedVariables false
set_option linter.unusedSimpArgs false
namespace Go.Proofs.Ytehphbaobhnfjaa.Pure
open Go.RowKit Go.Proofs.Ytehphbaobhnfjaa.Q Go.Proofs.YtehphbaobhnfjaaMine Go.Proofs.YtehphbaobhnfjaaW.PrintWords Go.Proofs.YtehphbaobhnfjaaW.PrintMore
section
variable {l : List (S63)} {m : List (S43)}
theorem specDutyOfLine (hl : l.length ≤ 2097152) (hc : ∀ x ∈ l, wfClass x) {x : S43} (hx : wfLine x) (how : Int) : Ev (fun k => spec_DutyOfLine.f k l x.f0 x.f1 x.f2 x.f3 how) (rDuty l [x] how) := by
  unfold spec_DutyOfLine.f; exact Ev.bind (specDutyOf hl hc (by simp) (wfOne hx) how) (Ev.now _)
theorem implDutyOfLine (hl : l.length ≤ 2097152) (hc : ∀ x ∈ l, wfClass x) {x : S43} (hx : wfLine x) (how : Int) : Ev (fun k => impl_DutyOfLine.f k l x.f0 x.f1 x.f2 x.f3 how) (rDuty l [x] how) := by
  unfold impl_DutyOfLine.f; exact Ev.bind (implDutyOf hl hc (by simp) (wfOne hx) how) (Ev.now _)
end
end Go.Proofs.Ytehphbaobhnfjaa.Pure
