/- The code of classes and a form, by the reference. -/
import Derived.Test.YtnefepgfmmnbpaaQ2
import Derived.Test.YtnefepgfmmnbpaaPureC5a
set_option linter.unusedVariables false
set_option linter.unusedSimpArgs false
namespace Go.Proofs.Ytnefepgfmmnbpaa.Pure
open Go.RowKit Go.Proofs.Ytnefepgfmmnbpaa.Q Go.Proofs.YtnefepgfmmnbpaaMine Go.Proofs.YtnefepgfmmnbpaaW.PrintWords Go.Proofs.YtnefepgfmmnbpaaW.PrintMore
section
variable {l : List (S56)} {m : List (S54)}
theorem specAsked (hl : l.length ≤ 2097152) (hc : ∀ x ∈ l, wfClass x) (hm : m.length ≤ 2097152) (hf : ∀ x ∈ m, wfLine x) (b : Bool) : Ev (fun k => spec_l05Asked.f k l m b) (if okF l m = true then (if b = true then 0 else 2) else 1) := by
 unfold spec_l05Asked.f
 refine Ev.bind (specF hl hm hc hf) ?_
 cases okF l m <;> cases b <;> exact Ev.now _
end
end Go.Proofs.Ytnefepgfmmnbpaa.Pure
