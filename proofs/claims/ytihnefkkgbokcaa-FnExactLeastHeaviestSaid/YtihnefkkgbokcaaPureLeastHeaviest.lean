/- LeastHeaviest returns what the reference returns, for all arguments. -/
import Derived.Test.YtihnefkkgbokcaaQ6
import Derived.Test.YtihnefkkgbokcaaPureALeastHeaviest
import Derived.Test.YtihnefkkgbokcaaPureToParcel
set_option linter.unusedVariables false
set_option linter.unusedSimpArgs false
namespace Go.Proofs.Ytihnefkkgbokcaa.Pure
open Go.RowKit Go.Proofs.Ytihnefkkgbokcaa.Q Go.Proofs.YtihnefkkgbokcaaMine Go.Proofs.YtihnefkkgbokcaaW.PrintWords
theorem LeastHeaviest : laws_FnExactLeastHeaviest.Pure := by
  intro l0 a1 ⟨_, hb0, hw0⟩ h1
  apply Ev.rounds
  unfold laws_FnExactLeastHeaviest.f
  simp only [szParcelS l0 (by omega) (1048576) (by omega) (by omega), Option.bind_some]
  by_cases g0 : (1048576 : Int) - (l0.length : Int) < 0
  · simp only [if_pos g0, if_pos (show (-1 : Int) < 0 by omega)]; exact Ev.now _
  simp only [if_neg g0]
  have hl0 : (l0.map cvParcel).length ≤ 2097152 := by rw [List.length_map]; omega
  have hc0 := wfsParcel (l := l0) hw0
  have hS := specLeastHeaviest hl0 hc0 a1
  have hI := implLeastHeaviest hl0 hc0 a1
  repeat (first | exact Ev.now _ | (with_reducible refine Ev.bind hS ?_) | (with_reducible refine Ev.bind hI ?_) | (with_reducible refine Ev.bind (toParcelS l0 (by omega)) ?_) | (with_reducible refine Ev.bind (eqParcelS _ hl0) ?_) | simp only [if_true, eq_self_iff_true, bne_self_eq_false, Bool.false_eq_true, if_false, Option.bind_some] | (show Ev (fun n => laws_FnExactLeastHeaviest.j0 n _ _) _; refine Ev.step (fun k => by simp only [laws_FnExactLeastHeaviest.j0]; rfl) ?_) | (show Ev (fun n => laws_FnExactLeastHeaviest.j0 n _ _ _) _; refine Ev.step (fun k => by simp only [laws_FnExactLeastHeaviest.j0]; rfl) ?_) | (show Ev (fun n => laws_FnExactLeastHeaviest.j0 n _ _ _ _) _; refine Ev.step (fun k => by simp only [laws_FnExactLeastHeaviest.j0]; rfl) ?_) | (show Ev (fun n => laws_FnExactLeastHeaviest.j0 n _ _ _ _ _) _; refine Ev.step (fun k => by simp only [laws_FnExactLeastHeaviest.j0]; rfl) ?_) | (show Ev (fun n => laws_FnExactLeastHeaviest.j0 n _ _ _ _ _ _) _; refine Ev.step (fun k => by simp only [laws_FnExactLeastHeaviest.j0]; rfl) ?_) | (show Ev (fun n => laws_FnExactLeastHeaviest.j0 n _ _ _ _ _ _ _) _; refine Ev.step (fun k => by simp only [laws_FnExactLeastHeaviest.j0]; rfl) ?_) | (show Ev (fun n => laws_FnExactLeastHeaviest.j0 n _ _ _ _ _ _ _ _) _; refine Ev.step (fun k => by simp only [laws_FnExactLeastHeaviest.j0]; rfl) ?_) | (show Ev (fun n => laws_FnExactLeastHeaviest.j0 n _ _ _ _ _ _ _ _ _) _; refine Ev.step (fun k => by simp only [laws_FnExactLeastHeaviest.j0]; rfl) ?_))
end Go.Proofs.Ytihnefkkgbokcaa.Pure
