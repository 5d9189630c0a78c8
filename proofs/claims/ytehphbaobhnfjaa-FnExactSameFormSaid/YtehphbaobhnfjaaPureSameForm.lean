/- SameForm returns what the reference returns, for all arguments. -/
import Derived.Test.YtehphbaobhnfjaaQ19
import Derived.Test.YtehphbaobhnfjaaPureASameForm
import Derived.Test.YtehphbaobhnfjaaPureToLine
set_option linter.unusedVariables false
set_option linter.unusedSimpArgs false
namespace Go.Proofs.Ytehphbaobhnfjaa.Pure
open Go.RowKit Go.Proofs.Ytehphbaobhnfjaa.Q Go.Proofs.YtehphbaobhnfjaaMine Go.Proofs.YtehphbaobhnfjaaW.PrintWords
theorem SameForm : laws_FnExactSameForm.Pure := by
  intro l0 l1 ⟨_, hb0, hw0⟩ ⟨_, hb1, hw1⟩
  apply Ev.rounds
  unfold laws_FnExactSameForm.f
  simp only [szLineS l0 (by omega) (1048576) (by omega) (by omega), Option.bind_some]
  by_cases g0 : (1048576 : Int) - (l0.length : Int) < 0
  · simp only [if_pos g0, if_pos (show (-1 : Int) < 0 by omega)]; exact Ev.now _
  simp only [if_neg g0]
  simp only [szLineS l1 (by omega) ((1048576 : Int) - (l0.length : Int)) (by omega) (by omega), Option.bind_some]
  by_cases g1 : ((1048576 : Int) - (l0.length : Int) : Int) - (l1.length : Int) < 0
  · simp only [if_pos g1, if_pos (show (-1 : Int) < 0 by omega)]; exact Ev.now _
  simp only [if_neg g1]
  have hl0 : (l0.map cvLine).length ≤ 2097152 := by rw [List.length_map]; omega
  have hc0 := wfsLine (l := l0) hw0
  have hl1 : (l1.map cvLine).length ≤ 2097152 := by rw [List.length_map]; omega
  have hc1 := wfsLine (l := l1) hw1
  have hS := specSameForm hl0 hc0 hl1 hc1
  have hI := implSameForm hl0 hc0 hl1 hc1
  repeat (first | exact Ev.now _ | (with_reducible refine Ev.bind hS ?_) | (with_reducible refine Ev.bind hI ?_) | (with_reducible refine Ev.bind (toLineS l0 (by omega)) ?_) | (with_reducible refine Ev.bind (toLineS l1 (by omega)) ?_) | (with_reducible refine Ev.bind (eqLineS _ hl0) ?_) | (with_reducible refine Ev.bind (eqLineS _ hl1) ?_) | simp only [if_true, eq_self_iff_true, bne_self_eq_false, Bool.false_eq_true, if_false, Option.bind_some])
end Go.Proofs.Ytehphbaobhnfjaa.Pure
