/- A form of one line. -/
import Derived.Test.YtehphbaobhnfjaaQ5
import Derived.Test.YtehphbaobhnfjaaPureToLine
set_option linter.unusedVariables false
set_option linter.unusedSimpArgs false
namespace Go.Proofs.Ytehphbaobhnfjaa.Pure
open Go.RowKit Go.Proofs.Ytehphbaobhnfjaa.Q Go.Proofs.YtehphbaobhnfjaaMine Go.Proofs.YtehphbaobhnfjaaW.PrintWords Go.Proofs.YtehphbaobhnfjaaW.PrintMore
section
variable {l : List (S63)} {m : List (S43)}
theorem wfOne {x : S43} (h : wfLine x) : ∀ y ∈ [x], wfLine y := fun y hy => by rw [List.mem_singleton.1 hy]; exact h
end
end Go.Proofs.Ytehphbaobhnfjaa.Pure
