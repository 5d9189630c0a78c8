/- ValidClasses returns what the reference returns, for all arguments. -/
import Derived.Test.YtehphbaobhnfjaaQ20
import Derived.Test.YtehphbaobhnfjaaPureAValidClasses
import Derived.Test.YtehphbaobhnfjaaPureToClass
set_option linter.unusedVariables false
set_option linter.unusedSimpArgs false
namespace Go.Proofs.Ytehphbaobhnfjaa.Pure
open Go.RowKit Go.Proofs.Ytehphbaobhnfjaa.Q Go.Proofs.YtehphbaobhnfjaaMine Go.Proofs.YtehphbaobhnfjaaW.PrintWords
theorem ValidClasses : laws_FnExactValidClasses.Pure := by
  intro l0 ⟨_, hb0, hw0⟩
  apply Ev.rounds
  unfold laws_FnExactValidClasses.f
  simp only [szClassS l0 (by omega) (1048576) (by omega) (by omega), Option.bind_some]
  by_cases g0 : (1048576 : Int) - (l0.length : Int) < 0
  · simp only [if_pos g0, if_pos (show (-1 : Int) < 0 by omega)]; exact Ev.now _
  simp only [if_neg g0]
  have hl0 : (l0.map cvClass).length ≤ 2097152 := by rw [List.length_map]; omega
  have hc0 := wfsClass (l := l0) hw0
  have hS := specValidClasses hl0 hc0
  have hI := implValidClasses hl0 hc0
  repeat (first | exact Ev.now _ | (with_reducible refine Ev.bind hS ?_) | (with_reducible refine Ev.bind hI ?_) | (with_reducible refine Ev.bind (toClassS l0 (by omega)) ?_) | (with_reducible refine Ev.bind (eqClassS _ hl0) ?_) | simp only [if_true, eq_self_iff_true, bne_self_eq_false, Bool.false_eq_true, if_false, Option.bind_some])
end Go.Proofs.Ytehphbaobhnfjaa.Pure
