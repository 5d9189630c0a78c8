/- RoundShare returns what the reference returns, for all arguments. -/
import Derived.Test.YtehphbaobhnfjaaQ18
import Derived.Test.YtehphbaobhnfjaaPureARoundShare
set_option linter.unusedVariables false
set_option linter.unusedSimpArgs false
namespace Go.Proofs.Ytehphbaobhnfjaa.Pure
open Go.RowKit Go.Proofs.Ytehphbaobhnfjaa.Q Go.Proofs.YtehphbaobhnfjaaMine Go.Proofs.YtehphbaobhnfjaaW.PrintWords
theorem RoundShare : laws_FnExactRoundShare.Pure := by
  intro a0 a1 a2 a3 h0 h1 h2 h3
  apply Ev.rounds
  unfold laws_FnExactRoundShare.f
  have hS := specRoundShare a0 a1 a2 a3
  have hI := implRoundShare a0 a1 a2 a3
  repeat (first | exact Ev.now _ | (with_reducible refine Ev.bind hS ?_) | (with_reducible refine Ev.bind hI ?_) | simp only [if_true, eq_self_iff_true, bne_self_eq_false, Bool.false_eq_true, if_false, Option.bind_some])
end Go.Proofs.Ytehphbaobhnfjaa.Pure
