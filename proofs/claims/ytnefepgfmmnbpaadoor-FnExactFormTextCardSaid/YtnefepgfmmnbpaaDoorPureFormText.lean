/- FormText returns what the reference returns, for all arguments. -/
import Derived.Test.YtnefepgfmmnbpaaDoorQ7
import Derived.Test.YtnefepgfmmnbpaaDoorPureAFormText
import Derived.Test.YtnefepgfmmnbpaaDoorPureToClass
import Derived.Test.YtnefepgfmmnbpaaDoorPureToLine
set_option linter.unusedVariables false
set_option linter.unusedSimpArgs false
namespace Go.Proofs.YtnefepgfmmnbpaaDoor.Pure
open Go.RowKit Go.Proofs.YtnefepgfmmnbpaaDoor.Q Go.Proofs.YtnefepgfmmnbpaaDoorMine Go.Proofs.YtnefepgfmmnbpaaDoorW.PrintWords
theorem FormText : laws_FnExactFormText.Pure := by
  intro l0 l1 ⟨_, hb0, hw0⟩ ⟨_, hb1, hw1⟩
  apply Ev.rounds
  unfold laws_FnExactFormText.f
  simp only [szClassS l0 (by omega) (1048576) (by omega) (by omega), Option.bind_some]
  by_cases g0 : (1048576 : Int) - (l0.length : Int) < 0
  · simp only [if_pos g0, if_pos (show (-1 : Int) < 0 by omega)]; exact Ev.now _
  simp only [if_neg g0]
  simp only [szLineS l1 (by omega) ((1048576 : Int) - (l0.length : Int)) (by omega) (by omega), Option.bind_some]
  by_cases g1 : ((1048576 : Int) - (l0.length : Int) : Int) - (l1.length : Int) < 0
  · simp only [if_pos g1, if_pos (show (-1 : Int) < 0 by omega)]; exact Ev.now _
  simp only [if_neg g1]
  have hl0 : (l0.map cvClass).length ≤ 2097152 := by rw [List.length_map]; omega
  have hc0 := wfsClass (l := l0) hw0
  have hl1 : (l1.map cvLine).length ≤ 2097152 := by rw [List.length_map]; omega
  have hc1 := wfsLine (l := l1) hw1
  have hS := specFormText hl0 hc0 hl1 hc1
  have hI := implFormText hl0 hc0 hl1 hc1
  repeat (first | exact Ev.now _ | (with_reducible refine Ev.bind hS ?_) | (with_reducible refine Ev.bind hI ?_) | (with_reducible refine Ev.bind (toClassS l0 (by omega)) ?_) | (with_reducible refine Ev.bind (eqClassS _ hl0) ?_) | (with_reducible refine Ev.bind (toLineS l1 (by omega)) ?_) | (with_reducible refine Ev.bind (eqLineS _ hl1) ?_) | simp only [if_true, eq_self_iff_true, bne_self_eq_false, Bool.false_eq_true, if_false, Option.bind_some] | (show Ev (fun n => laws_FnExactFormText.j0 n _ _) _; refine Ev.step (fun k => by simp only [laws_FnExactFormText.j0]; rfl) ?_) | (show Ev (fun n => laws_FnExactFormText.j0 n _ _ _) _; refine Ev.step (fun k => by simp only [laws_FnExactFormText.j0]; rfl) ?_) | (show Ev (fun n => laws_FnExactFormText.j0 n _ _ _ _) _; refine Ev.step (fun k => by simp only [laws_FnExactFormText.j0]; rfl) ?_) | (show Ev (fun n => laws_FnExactFormText.j0 n _ _ _ _ _) _; refine Ev.step (fun k => by simp only [laws_FnExactFormText.j0]; rfl) ?_) | (show Ev (fun n => laws_FnExactFormText.j0 n _ _ _ _ _ _) _; refine Ev.step (fun k => by simp only [laws_FnExactFormText.j0]; rfl) ?_) | (show Ev (fun n => laws_FnExactFormText.j0 n _ _ _ _ _ _ _) _; refine Ev.step (fun k => by simp only [laws_FnExactFormText.j0]; rfl) ?_) | (show Ev (fun n => laws_FnExactFormText.j0 n _ _ _ _ _ _ _ _) _; refine Ev.step (fun k => by simp only [laws_FnExactFormText.j0]; rfl) ?_) | (show Ev (fun n => laws_FnExactFormText.j0 n _ _ _ _ _ _ _ _ _) _; refine Ev.step (fun k => by simp only [laws_FnExactFormText.j0]; rfl) ?_))
end Go.Proofs.YtnefepgfmmnbpaaDoor.Pure
