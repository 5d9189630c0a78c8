/- ValidClasses: the reference and the program. -/
import Derived.Test.YtehphbaobhnfjaaQ3
import Derived.Test.YtehphbaobhnfjaaQ20
import Derived.Test.YtehphbaobhnfjaaPureC5a
set_option linter.unusedVariables false
set_option linter.unusedSimpArgs false
namespace Go.Proofs.Ytehphbaobhnfjaa.Pure
open Go.RowKit Go.Proofs.Ytehphbaobhnfjaa.Q Go.Proofs.YtehphbaobhnfjaaMine Go.Proofs.YtehphbaobhnfjaaW.PrintWords Go.Proofs.YtehphbaobhnfjaaW.PrintMore
section
variable {l : List (S63)} {m : List (S43)}
theorem specValidClasses (hl : l.length ≤ 2097152) (hc : ∀ x ∈ l, wfClass x) : Ev (fun k => spec_ValidClasses.f k l) (okCs l) := by
  unfold spec_ValidClasses.f; exact Ev.bind (specCs hl hc) (Ev.now _)
theorem implValidClasses (hl : l.length ≤ 2097152) (hc : ∀ x ∈ l, wfClass x) : Ev (fun k => impl_ValidClasses.f l) (okCs l) := Ev.val (fun _ => implCs hc)
end
end Go.Proofs.Ytehphbaobhnfjaa.Pure
