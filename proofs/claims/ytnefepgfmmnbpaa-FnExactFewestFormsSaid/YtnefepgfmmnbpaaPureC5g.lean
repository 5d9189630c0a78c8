/- The code of a form, an allowance and a way, by the program. -/
import Derived.Test.YtnefepgfmmnbpaaQ4
import Derived.Test.YtnefepgfmmnbpaaPureC5f
set_option linter.unusedVariables false
set_option linter.unusedSimpArgs false
namespace Go.Proofs.Ytnefepgfmmnbpaa.Pure
open Go.RowKit Go.Proofs.Ytnefepgfmmnbpaa.Q Go.Proofs.YtnefepgfmmnbpaaMine Go.Proofs.YtnefepgfmmnbpaaW.PrintWords Go.Proofs.YtnefepgfmmnbpaaW.PrintMore
section
variable {l : List (S56)} {m : List (S54)}
theorem implAllowCode (hl : l.length ≤ 2097152) (hc : ∀ x ∈ l, wfClass x) (hm : m.length ≤ 2097152) (hf : ∀ x ∈ m, wfLine x) (a how : Int) : impl_allowCode.f l m a how = some (if okF l m = true then (if (inR how 0 3 && inR a 0 1000000) = true then 0 else 2) else 1) := by
 unfold impl_allowCode.f impl_unless.f
 rw [implFormCode hl hc hm hf, Option.bind_some, within_eq]
 cases okF l m <;> cases inR how 0 3 <;> cases inR a 0 1000000 <;> rfl
end
end Go.Proofs.Ytnefepgfmmnbpaa.Pure
