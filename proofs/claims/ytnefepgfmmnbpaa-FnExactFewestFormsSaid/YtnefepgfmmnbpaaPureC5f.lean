/- The code of a form and a way, by the program. -/
import Derived.Test.YtnefepgfmmnbpaaQ4
import Derived.Test.YtnefepgfmmnbpaaPureC5a
import Derived.Test.YtnefepgfmmnbpaaPureC5h
set_option linter.unusedVariables false
set_option linter.unusedSimpArgs false
namespace Go.Proofs.Ytnefepgfmmnbpaa.Pure
open Go.RowKit Go.Proofs.Ytnefepgfmmnbpaa.Q Go.Proofs.YtnefepgfmmnbpaaMine Go.Proofs.YtnefepgfmmnbpaaW.PrintWords Go.Proofs.YtnefepgfmmnbpaaW.PrintMore
section
variable {l : List (S56)} {m : List (S54)}
theorem implFormCode (hl : l.length ≤ 2097152) (hc : ∀ x ∈ l, wfClass x) (hm : m.length ≤ 2097152) (hf : ∀ x ∈ m, wfLine x) (how : Int) : impl_formCode.f l m how = some (if okF l m = true then (if inR how 0 3 = true then 0 else 2) else 1) := by
 unfold impl_formCode.f impl_unless.f
 rw [implF hl hc hf, Option.bind_some, isWay_eq]
 cases okF l m <;> cases inR how 0 3 <;> rfl
end
end Go.Proofs.Ytnefepgfmmnbpaa.Pure
