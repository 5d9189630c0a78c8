/- ValidForm: the reference and the program. -/
import Derived.Test.YtehphbaobhnfjaaQ8
import Derived.Test.YtehphbaobhnfjaaQ22
import Derived.Test.YtehphbaobhnfjaaPureC5a
set_option linter.unusedVariables false
set_option linter.unusedSimpArgs false
namespace Go.Proofs.Ytehphbaobhnfjaa.Pure
open Go.RowKit Go.Proofs.Ytehphbaobhnfjaa.Q Go.Proofs.YtehphbaobhnfjaaMine Go.Proofs.YtehphbaobhnfjaaW.PrintWords Go.Proofs.YtehphbaobhnfjaaW.PrintMore
section
variable {l : List (S63)} {m : List (S43)}
theorem specValidForm (hl : l.length ≤ 2097152) (hc : ∀ x ∈ l, wfClass x) (hm : m.length ≤ 2097152) (hf : ∀ x ∈ m, wfLine x) : Ev (fun k => spec_ValidForm.f k l m) (okF l m) := by
  unfold spec_ValidForm.f; exact Ev.bind (specF hl hm hc hf) (Ev.now _)
theorem implValidForm (hl : l.length ≤ 2097152) (hc : ∀ x ∈ l, wfClass x) (hm : m.length ≤ 2097152) (hf : ∀ x ∈ m, wfLine x) : Ev (fun k => impl_ValidForm.f l m) (okF l m) := Ev.val (fun _ => implF hl hc hf)
end
end Go.Proofs.Ytehphbaobhnfjaa.Pure
