/- UnitValue returns what the reference returns, for all arguments. -/
import Derived.Test.YtehphbaobhnfjaaQ21
import Derived.Test.YtehphbaobhnfjaaPureAUnitValue
import Derived.Test.YtehphbaobhnfjaaPureToClass
import Derived.Test.YtehphbaobhnfjaaPureToLine
set_option linter.unusedVariables false
set_option linter.unusedSimpArgs false
namespace Go.Proofs.Ytehphbaobhnfjaa.Pure
open Go.RowKit Go.Proofs.Ytehphbaobhnfjaa.Q Go.Proofs.YtehphbaobhnfjaaMine Go.Proofs.YtehphbaobhnfjaaW.PrintWords
theorem UnitValue : laws_FnExactUnitValue.Pure := by
  intro l0 a1_0 a1_1 a1_2 a1_3 ⟨_, hb0, hw0⟩ h1_0 h1_1 h1_2 h1_3
  have hv1 : wfLine ⟨a1_0, a1_1, a1_2, a1_3⟩ := ⟨h1_0, h1_1, h1_2, h1_3⟩
  apply Ev.rounds
  unfold laws_FnExactUnitValue.f
  simp only [szClassS l0 (by omega) (1048576) (by omega) (by omega), Option.bind_some]
  by_cases g0 : (1048576 : Int) - (l0.length : Int) < 0
  · simp only [if_pos g0, if_pos (show (-1 : Int) < 0 by omega)]; exact Ev.now _
  simp only [if_neg g0]
  have hl0 : (l0.map cvClass).length ≤ 2097152 := by rw [List.length_map]; omega
  have hc0 := wfsClass (l := l0) hw0
  have hS := specUnitValue hl0 hc0 hv1
  have hI := implUnitValue hl0 hc0 hv1
  repeat (first | exact Ev.now _ | (with_reducible refine Ev.bind hS ?_) | (with_reducible refine Ev.bind hI ?_) | (with_reducible refine Ev.bind (toClassS l0 (by omega)) ?_) | (with_reducible refine Ev.bind (eqClassS _ hl0) ?_) | simp only [if_true, eq_self_iff_true, bne_self_eq_false, Bool.false_eq_true, if_false, Option.bind_some, laws_toLine.f] | (show Ev (fun n => laws_FnExactUnitValue.j0 n _ _) _; refine Ev.step (fun k => by simp only [laws_FnExactUnitValue.j0]; rfl) ?_) | (show Ev (fun n => laws_FnExactUnitValue.j0 n _ _ _) _; refine Ev.step (fun k => by simp only [laws_FnExactUnitValue.j0]; rfl) ?_) | (show Ev (fun n => laws_FnExactUnitValue.j0 n _ _ _ _) _; refine Ev.step (fun k => by simp only [laws_FnExactUnitValue.j0]; rfl) ?_) | (show Ev (fun n => laws_FnExactUnitValue.j0 n _ _ _ _ _) _; refine Ev.step (fun k => by simp only [laws_FnExactUnitValue.j0]; rfl) ?_) | (show Ev (fun n => laws_FnExactUnitValue.j0 n _ _ _ _ _ _) _; refine Ev.step (fun k => by simp only [laws_FnExactUnitValue.j0]; rfl) ?_) | (show Ev (fun n => laws_FnExactUnitValue.j0 n _ _ _ _ _ _ _) _; refine Ev.step (fun k => by simp only [laws_FnExactUnitValue.j0]; rfl) ?_) | (show Ev (fun n => laws_FnExactUnitValue.j0 n _ _ _ _ _ _ _ _) _; refine Ev.step (fun k => by simp only [laws_FnExactUnitValue.j0]; rfl) ?_) | (show Ev (fun n => laws_FnExactUnitValue.j0 n _ _ _ _ _ _ _ _ _) _; refine Ev.step (fun k => by simp only [laws_FnExactUnitValue.j0]; rfl) ?_))
end Go.Proofs.Ytehphbaobhnfjaa.Pure
