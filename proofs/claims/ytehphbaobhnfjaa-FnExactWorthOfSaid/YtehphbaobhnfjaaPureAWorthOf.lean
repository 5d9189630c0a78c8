/- WorthOf: the reference and the program. -/
import Derived.Test.YtehphbaobhnfjaaQ24
import Derived.Test.YtehphbaobhnfjaaPureC5a
import Derived.Test.YtehphbaobhnfjaaPureC5v
set_option linter.unusedVariables false
set_option linter.unusedSimpArgs false
namespace Go.Proofs.Ytehphbaobhnfjaa.Pure
open Go.RowKit Go.Proofs.Ytehphbaobhnfjaa.Q Go.Proofs.YtehphbaobhnfjaaMine Go.Proofs.YtehphbaobhnfjaaW.PrintWords Go.Proofs.YtehphbaobhnfjaaW.PrintMore
section
variable {l : List (S63)} {m : List (S43)}
def rWorth (l : List (S63)) (m : List (S43)) : Int × Int := if okF l m = true then (wor m, 0) else (0, 1)
theorem specWorthOf (hl : l.length ≤ 2097152) (hc : ∀ x ∈ l, wfClass x) (hm : m.length ≤ 2097152) (hf : ∀ x ∈ m, wfLine x) : Ev (fun k => spec_WorthOf.f k l m) (rWorth l m) := by
  unfold spec_WorthOf.f rWorth
  refine Ev.bind (specF hl hm hc hf) ?_
  cases okF l m with
  | false => exact Ev.now _
  | true => exact Ev.bind (specWor hm) (Ev.now _)
theorem implWorthOf (hl : l.length ≤ 2097152) (hc : ∀ x ∈ l, wfClass x) (hm : m.length ≤ 2097152) (hf : ∀ x ∈ m, wfLine x) : Ev (fun k => impl_WorthOf.f k l m) (rWorth l m) := by
  unfold impl_WorthOf.f rWorth
  simp only [implF hl hc hf, Option.bind_some]
  cases okF l m with
  | false => exact Ev.now _
  | true => exact Ev.bind (implWor hm) (Ev.now _)
end
end Go.Proofs.Ytehphbaobhnfjaa.Pure
