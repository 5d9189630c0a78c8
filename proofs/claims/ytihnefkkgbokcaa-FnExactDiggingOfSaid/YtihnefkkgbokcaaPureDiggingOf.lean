/- DiggingOf returns what the reference returns, for all arguments. -/
import Derived.Test.YtihnefkkgbokcaaQ11
import Derived.Test.YtihnefkkgbokcaaPureADiggingOf
import Derived.Test.YtihnefkkgbokcaaPureCpInt64
import Derived.Test.YtihnefkkgbokcaaPureToParcel
set_option linter.unusedVariables false
set_option linter.unusedSimpArgs false
namespace Go.Proofs.Ytihnefkkgbokcaa.Pure
open Go.RowKit Go.Proofs.Ytihnefkkgbokcaa.Q Go.Proofs.YtihnefkkgbokcaaMine Go.Proofs.YtihnefkkgbokcaaW.PrintWords
theorem DiggingOf : laws_FnExactDiggingOf.Pure := by
  intro l0 l1 l2 ⟨_, hb0, hw0⟩ ⟨_, hb1, hw1⟩ ⟨_, hb2, hw2⟩
  apply Ev.rounds
  unfold laws_FnExactDiggingOf.f
  by_cases g1 : (l1.length : Int) > 1048576
  · simp only [if_pos g1]; exact Ev.now _
  simp only [if_neg g1]
  by_cases g2 : (l2.length : Int) > 1048576
  · simp only [if_pos g2]; exact Ev.now _
  simp only [if_neg g2]
  simp only [szParcelS l0 (by omega) (1048576) (by omega) (by omega), Option.bind_some]
  by_cases g0 : (1048576 : Int) - (l0.length : Int) < 0
  · simp only [if_pos g0, if_pos (show (-1 : Int) < 0 by omega)]; exact Ev.now _
  simp only [if_neg g0]
  have hl0 : (l0.map cvParcel).length ≤ 2097152 := by rw [List.length_map]; omega
  have hc0 := wfsParcel (l := l0) hw0
  have hl1 : l1.length ≤ 2097152 := by omega
  have hl2 : l2.length ≤ 2097152 := by omega
  have hS := specDiggingOf hl0 hc0 l1 hl1 l2 hl2
  have hI := implDiggingOf hl0 hc0 l1 hl1 l2 hl2
  repeat (first | exact Ev.now _ | (with_reducible refine Ev.bind hS ?_) | (with_reducible refine Ev.bind hI ?_) | (with_reducible refine Ev.bind (toInt64S l1 hl1) ?_) | (with_reducible refine Ev.bind (eqInt64S l1 hl1) ?_) | (with_reducible refine Ev.bind (toInt64S l2 hl2) ?_) | (with_reducible refine Ev.bind (eqInt64S l2 hl2) ?_) | (with_reducible refine Ev.bind (toParcelS l0 (by omega)) ?_) | (with_reducible refine Ev.bind (eqParcelS _ hl0) ?_) | simp only [if_true, eq_self_iff_true, bne_self_eq_false, Bool.false_eq_true, if_false, Option.bind_some] | (show Ev (fun n => laws_FnExactDiggingOf.j0 n _ _ _) _; refine Ev.step (fun k => by simp only [laws_FnExactDiggingOf.j0]; rfl) ?_) | (show Ev (fun n => laws_FnExactDiggingOf.j0 n _ _ _ _) _; refine Ev.step (fun k => by simp only [laws_FnExactDiggingOf.j0]; rfl) ?_) | (show Ev (fun n => laws_FnExactDiggingOf.j0 n _ _ _ _ _) _; refine Ev.step (fun k => by simp only [laws_FnExactDiggingOf.j0]; rfl) ?_) | (show Ev (fun n => laws_FnExactDiggingOf.j0 n _ _ _ _ _ _) _; refine Ev.step (fun k => by simp only [laws_FnExactDiggingOf.j0]; rfl) ?_) | (show Ev (fun n => laws_FnExactDiggingOf.j0 n _ _ _ _ _ _ _) _; refine Ev.step (fun k => by simp only [laws_FnExactDiggingOf.j0]; rfl) ?_) | (show Ev (fun n => laws_FnExactDiggingOf.j0 n _ _ _ _ _ _ _ _) _; refine Ev.step (fun k => by simp only [laws_FnExactDiggingOf.j0]; rfl) ?_) | (show Ev (fun n => laws_FnExactDiggingOf.j0 n _ _ _ _ _ _ _ _ _) _; refine Ev.step (fun k => by simp only [laws_FnExactDiggingOf.j0]; rfl) ?_))
end Go.Proofs.Ytihnefkkgbokcaa.Pure
